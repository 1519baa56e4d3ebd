/-
  Texts of this claim, joined in their build order: the contracts of the functions that the statement reaches, and plain lemmas.
-/
import Derived.Test.YtpdcjkiejglaiaaDoorProg
import Derived.Below
import Derived.Deep.Draws
import Derived.Deep.AppendLies
import Derived.Maps.AppendAt
import Derived.OwnWalk
import Derived.Laws.BytesArg
import Derived.Laws.MakeOwn
import Derived.Laws.OwnMore
import Derived.Deep.OwnRows
import Derived.Tactics
import Derived.Lib.ConvBytes
import Derived.Laws.Slices
import Derived.WalkKit
import Derived.KernelRfl
import Derived.RowKit3
import Derived.Deep.LoopGhost
import Derived.Deep.QuietTactic
import Derived.BigQuiet
import Derived.WideLaws
import Derived.Deep.DeepCutAuto
import Derived.Deep.CutBlock
import Derived.Deep.RegionHeld3
import Derived.Laws.Rows
import Derived.Lib.AppendStr
import Derived.ArgAppend
import Derived.Laws.IdiomCopy
import Derived.OrdersHeld
import Derived.Laws.BitsLemmas
import Derived.RowKit
import Derived.Test.YtpdcjkiejglaiaaDoorWWords
import Derived.Test.YtpdcjkiejglaiaaDoorWLast
import Derived.Test.YtpdcjkiejglaiaaDoorWTab
import Derived.Test.YtpdcjkiejglaiaaDoorWFour
import Derived.Test.YtpdcjkiejglaiaaDoorWQPut
import Derived.Test.YtpdcjkiejglaiaaDoorWApart
import Derived.Test.YtpdcjkiejglaiaaDoorWArr
import Derived.Test.YtpdcjkiejglaiaaDoorWZeros
import Derived.Test.YtpdcjkiejglaiaaDoorWFoot
import Derived.Test.YtpdcjkiejglaiaaDoorWKept
import Derived.Test.YtpdcjkiejglaiaaDoorWShare
import Derived.Test.YtpdcjkiejglaiaaDoorWN
import Derived.Test.YtpdcjkiejglaiaaDoorWFootNe
import Derived.Test.YtpdcjkiejglaiaaDoorWAt
import Derived.Test.YtpdcjkiejglaiaaDoorWEqStruct
import Derived.Test.YtpdcjkiejglaiaaDoorWRepsOne
import Derived.Test.YtpdcjkiejglaiaaDoorWInv
import Derived.Test.YtpdcjkiejglaiaaDoorWInvWords
import Derived.Test.YtpdcjkiejglaiaaDoorWGuard
import Derived.Test.YtpdcjkiejglaiaaDoorWNEv
import Derived.Test.YtpdcjkiejglaiaaDoorWMore
import Derived.Lib.Strings
import Derived.Shelf.Strings.Builder1
import Derived.Shelf.Strings.Builder2
import Derived.Shelf.Small.Strs
import Derived.Shelf.Strings.BuilderF
import Derived.Shelf.Strings.BuilderK
import Derived.Shelf.Strings.Builder2Cap
import Derived.Shelf.Strconv.Itoa0
import Derived.Shelf.Strconv.Itoa1
import Derived.Shelf.LaysM
import Derived.Shelf.Strconv.Itoa2
import Derived.Shelf.Strconv.Itoa3
import Derived.Shelf.Strings.Search1
import Derived.Shelf.Strings.Search2
import Derived.Shelf.Strings.Search3
import Derived.Shelf.Strings.Shaped
import Derived.Shelf.Strings.Prefix
import Derived.Shelf.Bits.Mul64
import Derived.Shelf.Strings.Repeat
import Derived.Shelf.Strings.BuilderCap
import Derived.Lib.OthersKept

/- Laid by a program of this session (wip/tools/own_print.py) over the translation of this seat: contracts of the functions that the statement reaches. -/
namespace Go.Proofs.YtpdcjkiejglaiaaDoor.Q
open Go.RowKit Go.Proofs.YtpdcjkiejglaiaaDoorW.PrintWords Go.Proofs.YtpdcjkiejglaiaaDoorW.PrintLast Go.Proofs.YtpdcjkiejglaiaaDoorW.PrintMore
attribute [local go_sem] max2_int min2_int max_two min_two max_three min_three max_four min_four   -- for this text's walks alone
set_option linter.unusedVariables false
set_option linter.unusedSimpArgs false



def errW : Option Int → Value
  | none => .nilIface
  | some c => .iface 0 (.int .i64 c)
theorem errW_none : errW none = .nilIface := rfl
theorem errW_some (c : Int) : errW (some c) = .iface 0 (.int .i64 c) := rfl

theorem info3 : (Tryd.prog.info? 3).map (fun i => (i.zero, i.size, i.bytes)) = some (some (.int .i64 0), 1, 8) := by kernel_rfl
theorem info4 : (Tryd.prog.info? 4).map (fun i => (i.zero, i.size, i.bytes)) = some (some (.bool false), 1, 1) := by kernel_rfl
theorem info5 : (Tryd.prog.info? 5).map (fun i => (i.zero, i.size, i.bytes)) = some (some (.int .u8 0), 1, 1) := by kernel_rfl
theorem info9 : (Tryd.prog.info? 9).map (fun i => (i.zero, i.size, i.bytes)) = some (some (.string ⟨#[]⟩), 1, 16) := by kernel_rfl
-- the values' own types

end Go.Proofs.YtpdcjkiejglaiaaDoor.Q

/-
  Plain lemmas on texts as lists of numbers, on sums that do not wrap, and on functions with rounds. No program here.
-/
namespace Go.Proofs.YtpdcjkiejglaiaaDoor.Q
open Go.RowKit Go.Proofs.YtpdcjkiejglaiaaDoorW.PrintWords Go.Proofs.YtpdcjkiejglaiaaDoorW.PrintLast Go.Proofs.YtpdcjkiejglaiaaDoorW.PrintMore
set_option linter.unusedVariables false
set_option linter.unusedSimpArgs false

theorem wrap_id {i : Int} (h1 : -9223372036854775808 ≤ i) (h2 : i < 9223372036854775808) : wrap64 i = i := by
  unfold wrap64
  omega

/-- the bytes of a text, as numbers -/
def li (s : ByteArray) : List Int := s.data.toList.map fun c => (c.toNat : Int)
theorem li_length (s : ByteArray) : (li s).length = s.size := by
  unfold li
  rw [List.length_map, Array.length_toList]
  rfl
theorem bt_li (s : ByteArray) (i : Int) : bt s i = (li s).getD i.toNat 0 := by
  unfold bt li
  by_cases h : i.toNat < s.size
  · rw [dif_pos h]
    have h' : i.toNat < s.data.toList.length := by rw [Array.length_toList]; exact h
    rw [List.getD_eq_getElem?_getD, List.getElem?_map, List.getElem?_eq_getElem h']
    rfl
  · rw [dif_neg h]
    have h' : ¬ i.toNat < s.data.toList.length := by rw [Array.length_toList]; exact h
    rw [List.getD_eq_getElem?_getD, List.getElem?_map, List.getElem?_eq_none (by omega)]
    rfl
theorem li_extract (s : ByteArray) (a b : Nat) : li (s.extract a b) = ((li s).drop a).take (b - a) := by
  unfold li
  rw [Lib.extract_data, List.map_take, List.map_drop]
theorem li_append (s t : ByteArray) : li (s ++ t) = li s ++ li t := by
  unfold li
  rw [ByteArray.data_append, Array.toList_append, List.map_append]
theorem toNat_inj {a b : UInt8} (h : (a.toNat : Int) = (b.toNat : Int)) : a = b := UInt8.toNat_inj.1 (by omega)
theorem map_toNat_inj : ∀ {a b : List UInt8}, a.map (fun c => (c.toNat : Int)) = b.map (fun c => (c.toNat : Int)) → a = b
  | [], [], _ => rfl
  | [], _ :: _, h => by simp at h
  | _ :: _, [], h => by simp at h
  | x :: a, y :: b, h => by
    simp only [List.map_cons, List.cons.injEq] at h
    rw [toNat_inj h.1, map_toNat_inj h.2]
theorem li_inj {a b : ByteArray} (h : li a = li b) : a = b := by
  have := map_toNat_inj h
  cases a; cases b
  simp at this ⊢
  exact this
theorem toList_li (a b : ByteArray) : a.toList = b.toList ↔ li a = li b := by
  rw [ByteArray.toList_eq, ByteArray.toList_eq]
  constructor
  · intro h; unfold li; rw [h]
  · exact fun h => map_toNat_inj h
theorem li_range (s : ByteArray) : ∀ x ∈ li s, 0 ≤ x ∧ x ≤ 255 := by
  intro x hx
  unfold li at hx
  obtain ⟨c, _, rfl⟩ := List.mem_map.1 hx
  have := c.toNat_lt
  omega
theorem beq_li (a b : ByteArray) : (a.toList == b.toList) = decide (li a = li b) := by
  rw [Bool.eq_iff_iff]
  simp only [beq_iff_eq, decide_eq_true_eq]
  exact toList_li a b
theorem size_li {s : ByteArray} {l : List Int} (h : li s = l) : s.size = l.length := by rw [← h, li_length]
/-- a text is told by its bytes -/
theorem li_ext {a b : ByteArray} (h : a.size = b.size) (hb : ∀ i : Nat, i < a.size → bt a i = bt b i) : li a = li b := by
  apply List.ext_getElem (by rw [li_length, li_length, h])
  intro i h1 h2
  have := hb i (by rw [li_length] at h1; exact h1)
  rw [bt_li, bt_li, List.getD_eq_getElem?_getD, List.getD_eq_getElem?_getD] at this
  simpa [h1, h2] using this
theorem bt_extract0 (s : ByteArray) (n : Nat) (hn : n ≤ s.size) (i : Nat) (hi : i < n) : bt (s.extract 0 n) i = bt s i := by
  rw [bt_li, bt_li, li_extract]
  simp [List.getD_eq_getElem?_getD, List.getElem?_take, hi]
theorem size_extract0 (s : ByteArray) (n : Nat) (hn : n ≤ s.size) : (s.extract 0 n).size = n := by
  rw [ByteArray.size_extract]; omega

/-! functions with rounds -/
theorem Ev.some_of {α : Type} {g : Nat → Option α} {r : α} (h : ∀ k, g k = some r) : Ev g r := ⟨0, fun k _ => h k⟩
theorem Ev.eq {α : Type} {g : Nat → Option α} {r q : α} (h : Ev g r) (e : r = q) : Ev g q := e ▸ h
theorem Ev.bind' {α β : Type} {g : Nat → Option α} {f : Nat → α → Option β} {a : α} {r : β} (h : Ev g a) (k : Ev (fun n => f n a) r) : Ev (fun n => (g n).bind fun x => f n x) r := Ev.bind h k
theorem Ev.pos {α : Type} {c : Prop} [Decidable c] {g f : Nat → Option α} {r : α} (hc : c) (h : Ev g r) : Ev (fun k => if c then g k else f k) r := by
  obtain ⟨K, h⟩ := h
  exact ⟨K, fun k hk => by show (if c then g k else f k) = some r; rw [if_pos hc]; exact h k hk⟩
theorem Ev.neg {α : Type} {c : Prop} [Decidable c] {g f : Nat → Option α} {r : α} (hc : ¬ c) (h : Ev f r) : Ev (fun k => if c then g k else f k) r := by
  obtain ⟨K, h⟩ := h
  exact ⟨K, fun k hk => by show (if c then g k else f k) = some r; rw [if_neg hc]; exact h k hk⟩

end Go.Proofs.YtpdcjkiejglaiaaDoor.Q

/- Laid by a program of this session (wip/tools/own_print.py) over the translation of this seat: contracts of the functions that the statement reaches. -/
namespace Go.Proofs.YtpdcjkiejglaiaaDoor.Q
open Go.RowKit Go.Proofs.YtpdcjkiejglaiaaDoorW.PrintWords Go.Proofs.YtpdcjkiejglaiaaDoorW.PrintLast Go.Proofs.YtpdcjkiejglaiaaDoorW.PrintMore
attribute [local go_sem] max2_int min2_int max_two min_two max_three min_three max_four min_four   -- for this text's walks alone
set_option linter.unusedVariables false
set_option linter.unusedSimpArgs false

/-! ### impl_within: function 37 -/
def impl_within.f (a0 : Int) (a1 : Int) (a2 : Int) : Option (Bool) := if a1 ≤ a0 then (some (decide (a0 ≤ a2))) else (some false)
set_option maxHeartbeats 8000000 in
set_option maxRecDepth 100000 in
theorem impl_within.calls (a0 : Int) (a1 : Int) (a2 : Int) (r : Bool) (w : World) (h : impl_within.f a0 a1 a2 = some r) :
    Calls Tryd.prog 37 #[.int .i64 a0, .int .i64 a1, .int .i64 a2] w fun e w' => e = .returned (.bool r) ∧ Drawn0 w w' := by
  have H : (if a1 ≤ a0 then (some (decide (a0 ≤ a2))) else (some false)) = some r := h
  clear h
  by_cases c4 : a1 ≤ a0
  · rw [if_pos c4] at H
    have c4b0 : decide (a1 ≤ a0) = true := decide_eq_true c4
    clear c4
    obtain rfl := Option.some.inj H
    go_enter Tryd.func37, Tryd.ntmps37
    go_wp2
    go_ret
    exact ⟨by first | rfl | (simp; done) | (simp [*]; done), by repeat (first | exact Drawn0.refl _ | apply Drawn0.step)⟩
  · rw [if_neg c4] at H
    have c4b0 : decide (a1 ≤ a0) = false := decide_eq_false c4
    clear c4
    obtain rfl := Option.some.inj H
    go_enter Tryd.func37, Tryd.ntmps37
    go_wp2
    go_ret
    exact ⟨by first | rfl | (simp; done) | (simp [*]; done), by repeat (first | exact Drawn0.refl _ | apply Drawn0.step)⟩

end Go.Proofs.YtpdcjkiejglaiaaDoor.Q

/- Laid by a program of this session (wip/tools/own_print.py) over the translation of this seat: contracts of the functions that the statement reaches. -/
namespace Go.Proofs.YtpdcjkiejglaiaaDoor.Q
open Go.RowKit Go.Proofs.YtpdcjkiejglaiaaDoorW.PrintWords Go.Proofs.YtpdcjkiejglaiaaDoorW.PrintLast Go.Proofs.YtpdcjkiejglaiaaDoorW.PrintMore
attribute [local go_sem] max2_int min2_int max_two min_two max_three min_three max_four min_four   -- for this text's walks alone
set_option linter.unusedVariables false
set_option linter.unusedSimpArgs false

/-! ### impl_areDigits: function 54 -/
def impl_areDigits.l0 : Nat → ByteArray → Int → Int → Int → Int → Option (Bool)
  | 0, _, _, _, _, _ => none
  | k + 1, x0, x1, x2, x9, x10 => if x10 < x9 then (if 0 ≤ x10 then (if x10 < (x0.size : Int) then (if (bt x0 x10) < 48 then (some false) else (if (bt x0 x10) > 57 then (some false) else (impl_areDigits.l0 k x0 x1 x2 x9 (wrap64 (x10 + 1))))) else (none)) else (none)) else ((impl_within.f (x0.size : Int) x1 x2).bind fun t101 => (some t101))
def impl_areDigits.f (k : Nat) (a0 : ByteArray) (a1 : Int) (a2 : Int) : Option (Bool) := impl_areDigits.l0 k a0 a1 a2 (a0.size : Int) 0
theorem impl_areDigits.mono_l : ∀ k, (∀ y0 y1 y2 y3 y4, LeO (impl_areDigits.l0 k y0 y1 y2 y3 y4) (impl_areDigits.l0 (k + 1) y0 y1 y2 y3 y4))
  | 0 => fun _ _ _ _ _ r h => by simp [impl_areDigits.l0] at h
  | k + 1 => by
    have ih0 := impl_areDigits.mono_l k
    · intro y0 y1 y2 y3 y4
      unfold impl_areDigits.l0
      repeat' first
      | (with_reducible exact ih0 _ _ _ _ _)
      | (with_reducible exact LeO.refl _)
      | (with_reducible exact LeO.none _)
      | (with_reducible refine LeO.ite ?_ ?_)
      | (with_reducible refine LeO.bind ?_ (fun _ => ?_))
      | exact ih0 _ _ _ _ _
      | exact LeO.none _
      | refine LeO.ite ?_ ?_
      | refine LeO.bind ?_ (fun _ => ?_)
theorem impl_areDigits.mono : ∀ a0 a1 a2 k, LeO (impl_areDigits.f k a0 a1 a2) (impl_areDigits.f (k + 1) a0 a1 a2) := by
  intro a0 a1 a2 k
  have ih0 := impl_areDigits.mono_l k
  unfold impl_areDigits.f
  repeat' first
      | (with_reducible exact ih0 _ _ _ _ _)
      | (with_reducible exact LeO.refl _)
      | (with_reducible exact LeO.none _)
      | (with_reducible refine LeO.ite ?_ ?_)
      | (with_reducible refine LeO.bind ?_ (fun _ => ?_))
      | exact ih0 _ _ _ _ _
      | exact LeO.none _
      | refine LeO.ite ?_ ?_
      | refine LeO.bind ?_ (fun _ => ?_)
set_option maxHeartbeats 8000000 in
set_option maxRecDepth 100000 in
theorem impl_areDigits.calls (k : Nat) (a0 : ByteArray) (a1 : Int) (a2 : Int) (r : Bool) (w : World) (h : impl_areDigits.f k a0 a1 a2 = some r) :
    Calls Tryd.prog 54 #[.string a0, .int .i64 a1, .int .i64 a2] w fun e w' => e = .returned (.bool r) ∧ Drawn0 w w' := by
  have H : (impl_areDigits.l0 k a0 a1 a2 (a0.size : Int) 0) = some r := h
  clear h
  have H' := Aside0.mk H
  clear H
  go_enter Tryd.func54, Tryd.ntmps54
  go_wp2
  go_loopg [10] k (fun kq v10 w' => ∃ (x10_1 : Int), v10 = .int .i64 x10_1 ∧ Aside0 (impl_areDigits.l0 kq a0 a1 a2 (a0.size : Int) x10_1 = some r) ∧ Aside0 (kq ≤ k) ∧ Drawn0 w w')
  case atStart => exact ⟨(0), (by first | rfl | (simp; done) | (simp [*]; done)), H', ⟨Nat.le_refl _⟩, by repeat (first | exact Drawn0.refl _ | apply Drawn0.step)⟩
  case round =>
    clear H'
    try clear p2
    obtain ⟨x10_1, rfl, HA, HK1, ⟨m1, rfl⟩⟩ := hrel
    cases gk with
    | zero => exact absurd HA.out (by simp [impl_areDigits.l0])
    | succ k1 =>
      have H := HA.out
      clear HA
      simp only [impl_areDigits.l0] at H
      by_cases c4 : x10_1 < (a0.size : Int)
      · rw [if_pos c4] at H
        have c4b0 : decide (x10_1 < (a0.size : Int)) = true := decide_eq_true c4
        clear c4
        by_cases c5 : 0 ≤ x10_1
        · rw [if_pos c5] at H
          have c5b0 : decide (0 ≤ x10_1) = true := decide_eq_true c5
          clear c5
          by_cases c6 : x10_1 < (a0.size : Int)
          · rw [if_pos c6] at H
            have c6b0 : decide (x10_1 < (a0.size : Int)) = true := decide_eq_true c6
            clear c6
            by_cases c8 : (bt a0 x10_1) < 48
            · rw [if_pos c8] at H
              have c8b0 : decide ((bt a0 x10_1) < 48) = true := decide_eq_true c8
              clear c8
              obtain rfl := Option.some.inj H
              have p7 : 0 ≤ (x10_1 : Int) := of_decide_eq_true (by first | (with_reducible assumption) | assumption)
              have q7 : x10_1 < (a0.size : Int) := of_decide_eq_true (by first | (with_reducible assumption) | assumption)
              have hx7 := bt_at a0 x10_1
              replace p7 := eq_true p7
              replace q7 := eq_true q7
              go_wp2
              go_ret
              exact ⟨by first | rfl | (simp; done) | (simp [*]; done), by repeat (first | exact Drawn0.refl _ | apply Drawn0.step)⟩
            · rw [if_neg c8] at H
              have c8b0 : decide ((bt a0 x10_1) < 48) = false := decide_eq_false c8
              clear c8
              by_cases c10 : (bt a0 x10_1) > 57
              · rw [if_pos c10] at H
                have c10b0 : decide (57 < (bt a0 x10_1)) = true := decide_eq_true c10
                clear c10
                obtain rfl := Option.some.inj H
                have p7 : 0 ≤ (x10_1 : Int) := of_decide_eq_true (by first | (with_reducible assumption) | assumption)
                have q7 : x10_1 < (a0.size : Int) := of_decide_eq_true (by first | (with_reducible assumption) | assumption)
                have hx7 := bt_at a0 x10_1
                replace p7 := eq_true p7
                replace q7 := eq_true q7
                have p9 : 0 ≤ (x10_1 : Int) := of_decide_eq_true (by first | (with_reducible assumption) | assumption)
                have q9 : x10_1 < (a0.size : Int) := of_decide_eq_true (by first | (with_reducible assumption) | assumption)
                have hx9 := bt_at a0 x10_1
                replace p9 := eq_true p9
                replace q9 := eq_true q9
                go_wp2
                go_ret
                exact ⟨by first | rfl | (simp; done) | (simp [*]; done), by repeat (first | exact Drawn0.refl _ | apply Drawn0.step)⟩
              · rw [if_neg c10] at H
                have c10b0 : decide (57 < (bt a0 x10_1)) = false := decide_eq_false c10
                clear c10
                have H' := Aside0.mk H
                clear H
                have p7 : 0 ≤ (x10_1 : Int) := of_decide_eq_true (by first | (with_reducible assumption) | assumption)
                have q7 : x10_1 < (a0.size : Int) := of_decide_eq_true (by first | (with_reducible assumption) | assumption)
                have hx7 := bt_at a0 x10_1
                replace p7 := eq_true p7
                replace q7 := eq_true q7
                have p9 : 0 ≤ (x10_1 : Int) := of_decide_eq_true (by first | (with_reducible assumption) | assumption)
                have q9 : x10_1 < (a0.size : Int) := of_decide_eq_true (by first | (with_reducible assumption) | assumption)
                have hx9 := bt_at a0 x10_1
                replace p9 := eq_true p9
                replace q9 := eq_true q9
                go_wp2
                go_roundg k1
                case measure => have := HK1.out; omega
                case rel => exact ⟨(wrap64 (x10_1 + 1)), (by first | rfl | (simp; done) | (simp [*]; done)), H', ⟨by have := HK1.out; omega⟩, by repeat (first | exact Drawn0.refl _ | apply Drawn0.step)⟩
          · rw [if_neg c6] at H
            exact absurd H (by simp)
        · rw [if_neg c5] at H
          exact absurd H (by simp)
      · rw [if_neg c4] at H
        have c4b0 : decide (x10_1 < (a0.size : Int)) = false := decide_eq_false c4
        clear c4
        replace H := Option.bind_eq_some_iff.mp H
        obtain ⟨t101, A110, H⟩ := H
        replace H : (some t101) = some r := H
        have A11 := Aside0.mk A110
        clear A110
        obtain rfl := Option.some.inj H
        go_wp2_with (first | ((with_reducible refine gate_callee (f := 37) rfl ?_); refine goesL_ (some 28) rfl rfl Tryd.func37 (by kernel_rfl) rfl #[.int .i64 (a0.size : Int), .int .i64 a1, .int .i64 a2] rfl (by (try simp only [List.map_toArray, List.map_cons, List.map_nil]); first | done | rfl | (simp only [List.length_drop, List.length_take]; rfl)) ?_; (with_reducible refine (impl_within.calls (a0.size : Int) a1 a2 t101 _ A11.out).mono ?_); rintro e w' ⟨rfl, ⟨nd, rfl⟩⟩; refine ⟨_, rfl, ?_⟩))
        go_ret
        exact ⟨by first | rfl | (simp; done) | (simp [*]; done), by repeat (first | exact Drawn0.refl _ | apply Drawn0.step)⟩

end Go.Proofs.YtpdcjkiejglaiaaDoor.Q

/- Laid by a program of this session (wip/tools/own_print.py) over the translation of this seat: contracts of the functions that the statement reaches. -/
namespace Go.Proofs.YtpdcjkiejglaiaaDoor.Q
open Go.RowKit Go.Proofs.YtpdcjkiejglaiaaDoorW.PrintWords Go.Proofs.YtpdcjkiejglaiaaDoorW.PrintLast Go.Proofs.YtpdcjkiejglaiaaDoorW.PrintMore
attribute [local go_sem] max2_int min2_int max_two min_two max_three min_three max_four min_four   -- for this text's walks alone
set_option linter.unusedVariables false
set_option linter.unusedSimpArgs false

/-! ### spec_l1In: function 35 -/
def spec_l1In.f (a0 : Int) (a1 : Int) (a2 : Int) : Option (Bool) := if a0 ≥ a1 then (some (decide (a0 ≤ a2))) else (some false)
set_option maxHeartbeats 8000000 in
set_option maxRecDepth 100000 in
theorem spec_l1In.calls (a0 : Int) (a1 : Int) (a2 : Int) (r : Bool) (w : World) (h : spec_l1In.f a0 a1 a2 = some r) :
    Calls Tryd.prog 35 #[.int .i64 a0, .int .i64 a1, .int .i64 a2] w fun e w' => e = .returned (.bool r) ∧ Drawn0 w w' := by
  have H : (if a0 ≥ a1 then (some (decide (a0 ≤ a2))) else (some false)) = some r := h
  clear h
  by_cases c4 : a0 ≥ a1
  · rw [if_pos c4] at H
    have c4b0 : decide (a1 ≤ a0) = true := decide_eq_true c4
    clear c4
    obtain rfl := Option.some.inj H
    go_enter Tryd.func35, Tryd.ntmps35
    go_wp2
    go_ret
    exact ⟨by first | rfl | (simp; done) | (simp [*]; done), by repeat (first | exact Drawn0.refl _ | apply Drawn0.step)⟩
  · rw [if_neg c4] at H
    have c4b0 : decide (a1 ≤ a0) = false := decide_eq_false c4
    clear c4
    obtain rfl := Option.some.inj H
    go_enter Tryd.func35, Tryd.ntmps35
    go_wp2
    go_ret
    exact ⟨by first | rfl | (simp; done) | (simp [*]; done), by repeat (first | exact Drawn0.refl _ | apply Drawn0.step)⟩

end Go.Proofs.YtpdcjkiejglaiaaDoor.Q

/- Laid by a program of this session (wip/tools/own_print.py) over the translation of this seat: contracts of the functions that the statement reaches. -/
namespace Go.Proofs.YtpdcjkiejglaiaaDoor.Q
open Go.RowKit Go.Proofs.YtpdcjkiejglaiaaDoorW.PrintWords Go.Proofs.YtpdcjkiejglaiaaDoorW.PrintLast Go.Proofs.YtpdcjkiejglaiaaDoorW.PrintMore
attribute [local go_sem] max2_int min2_int max_two min_two max_three min_three max_four min_four   -- for this text's walks alone
set_option linter.unusedVariables false
set_option linter.unusedSimpArgs false

/-! ### spec_miGood: function 23 -/
def spec_miGood.l0 : Nat → ByteArray → Int → Option (Bool)
  | 0, _, _ => none
  | k + 1, x0, x3 => if x3 < (x0.size : Int) then (if 0 ≤ x3 then (if (bt x0 x3) < 48 then (some false) else (if (bt x0 x3) > 57 then (some false) else (spec_miGood.l0 k x0 (wrap64 (x3 + 1))))) else (none)) else (some true)
def spec_miGood.f (k : Nat) (a0 : ByteArray) : Option (Bool) := (spec_l1In.f (a0.size : Int) 1 9).bind fun t101 => (if t101 = true then (spec_miGood.l0 k a0 0) else (some false))
theorem spec_miGood.mono_l : ∀ k, (∀ y0 y1, LeO (spec_miGood.l0 k y0 y1) (spec_miGood.l0 (k + 1) y0 y1))
  | 0 => fun _ _ r h => by simp [spec_miGood.l0] at h
  | k + 1 => by
    have ih0 := spec_miGood.mono_l k
    · intro y0 y1
      unfold spec_miGood.l0
      repeat' first
      | (with_reducible exact ih0 _ _)
      | (with_reducible exact LeO.refl _)
      | (with_reducible exact LeO.none _)
      | (with_reducible refine LeO.ite ?_ ?_)
      | (with_reducible refine LeO.bind ?_ (fun _ => ?_))
      | exact ih0 _ _
      | exact LeO.none _
      | refine LeO.ite ?_ ?_
      | refine LeO.bind ?_ (fun _ => ?_)
theorem spec_miGood.mono : ∀ a0 k, LeO (spec_miGood.f k a0) (spec_miGood.f (k + 1) a0) := by
  intro a0 k
  have ih0 := spec_miGood.mono_l k
  unfold spec_miGood.f
  repeat' first
      | (with_reducible exact ih0 _ _)
      | (with_reducible exact LeO.refl _)
      | (with_reducible exact LeO.none _)
      | (with_reducible refine LeO.ite ?_ ?_)
      | (with_reducible refine LeO.bind ?_ (fun _ => ?_))
      | exact ih0 _ _
      | exact LeO.none _
      | refine LeO.ite ?_ ?_
      | refine LeO.bind ?_ (fun _ => ?_)
set_option maxHeartbeats 8000000 in
set_option maxRecDepth 100000 in
theorem spec_miGood.calls (k : Nat) (a0 : ByteArray) (r : Bool) (w : World) (h : spec_miGood.f k a0 = some r) :
    Calls Tryd.prog 23 #[.string a0] w fun e w' => e = .returned (.bool r) ∧ Drawn0 w w' := by
  have H : ((spec_l1In.f (a0.size : Int) 1 9).bind fun t101 => (if t101 = true then (spec_miGood.l0 k a0 0) else (some false))) = some r := h
  clear h
  replace H := Option.bind_eq_some_iff.mp H
  obtain ⟨t101, A20, H⟩ := H
  replace H : (if t101 = true then (spec_miGood.l0 k a0 0) else (some false)) = some r := H
  have A2 := Aside0.mk A20
  clear A20
  by_cases c3 : t101 = true
  · subst c3
    have H1 : (spec_miGood.l0 k a0 0) = some r := by rw [if_pos rfl] at H; exact H
    clear H
    have H := H1
    clear H1
    have H' := Aside0.mk H
    clear H
    go_enter Tryd.func23, Tryd.ntmps23
    go_wp2_with (first | ((with_reducible refine gate_callee (f := 35) rfl ?_); refine goesL_ (some 6) rfl rfl Tryd.func35 (by kernel_rfl) rfl #[.int .i64 (a0.size : Int), .int .i64 1, .int .i64 9] rfl (by (try simp only [List.map_toArray, List.map_cons, List.map_nil]); first | done | rfl | (simp only [List.length_drop, List.length_take]; rfl)) ?_; (with_reducible refine (spec_l1In.calls (a0.size : Int) 1 9 true _ A2.out).mono ?_); rintro e w' ⟨rfl, ⟨nd, rfl⟩⟩; refine ⟨_, rfl, ?_⟩))
    go_loopg [3] k (fun kq v3 w' => ∃ (x3_1 : Int), v3 = .int .i64 x3_1 ∧ Aside0 (spec_miGood.l0 kq a0 x3_1 = some r) ∧ Aside0 (kq ≤ k) ∧ Drawn0 w w')
    case atStart => exact ⟨(0), (by first | rfl | (simp; done) | (simp [*]; done)), H', ⟨Nat.le_refl _⟩, by repeat (first | exact Drawn0.refl _ | apply Drawn0.step)⟩
    case round =>
      clear H'
      try clear c2
      try clear p2
      try clear c3
      obtain ⟨x3_1, rfl, HA, HK1, ⟨m1, rfl⟩⟩ := hrel
      cases gk with
      | zero => exact absurd HA.out (by simp [spec_miGood.l0])
      | succ k1 =>
        have H := HA.out
        clear HA
        simp only [spec_miGood.l0] at H
        by_cases c4 : x3_1 < (a0.size : Int)
        · rw [if_pos c4] at H
          have c4b0 : decide (x3_1 < (a0.size : Int)) = true := decide_eq_true c4
          clear c4
          by_cases c5 : 0 ≤ x3_1
          · rw [if_pos c5] at H
            have c5b0 : decide (0 ≤ x3_1) = true := decide_eq_true c5
            clear c5
            by_cases c7 : (bt a0 x3_1) < 48
            · rw [if_pos c7] at H
              have c7b0 : decide ((bt a0 x3_1) < 48) = true := decide_eq_true c7
              clear c7
              obtain rfl := Option.some.inj H
              have p6 : 0 ≤ (x3_1 : Int) := of_decide_eq_true (by first | (with_reducible assumption) | assumption)
              have q6 : x3_1 < (a0.size : Int) := of_decide_eq_true (by first | (with_reducible assumption) | assumption)
              have hx6 := bt_at a0 x3_1
              replace p6 := eq_true p6
              replace q6 := eq_true q6
              go_wp2
              go_ret
              exact ⟨by first | rfl | (simp; done) | (simp [*]; done), by repeat (first | exact Drawn0.refl _ | apply Drawn0.step)⟩
            · rw [if_neg c7] at H
              have c7b0 : decide ((bt a0 x3_1) < 48) = false := decide_eq_false c7
              clear c7
              by_cases c9 : (bt a0 x3_1) > 57
              · rw [if_pos c9] at H
                have c9b0 : decide (57 < (bt a0 x3_1)) = true := decide_eq_true c9
                clear c9
                obtain rfl := Option.some.inj H
                have p6 : 0 ≤ (x3_1 : Int) := of_decide_eq_true (by first | (with_reducible assumption) | assumption)
                have q6 : x3_1 < (a0.size : Int) := of_decide_eq_true (by first | (with_reducible assumption) | assumption)
                have hx6 := bt_at a0 x3_1
                replace p6 := eq_true p6
                replace q6 := eq_true q6
                have p8 : 0 ≤ (x3_1 : Int) := of_decide_eq_true (by first | (with_reducible assumption) | assumption)
                have q8 : x3_1 < (a0.size : Int) := of_decide_eq_true (by first | (with_reducible assumption) | assumption)
                have hx8 := bt_at a0 x3_1
                replace p8 := eq_true p8
                replace q8 := eq_true q8
                go_wp2
                go_ret
                exact ⟨by first | rfl | (simp; done) | (simp [*]; done), by repeat (first | exact Drawn0.refl _ | apply Drawn0.step)⟩
              · rw [if_neg c9] at H
                have c9b0 : decide (57 < (bt a0 x3_1)) = false := decide_eq_false c9
                clear c9
                have H' := Aside0.mk H
                clear H
                have p6 : 0 ≤ (x3_1 : Int) := of_decide_eq_true (by first | (with_reducible assumption) | assumption)
                have q6 : x3_1 < (a0.size : Int) := of_decide_eq_true (by first | (with_reducible assumption) | assumption)
                have hx6 := bt_at a0 x3_1
                replace p6 := eq_true p6
                replace q6 := eq_true q6
                have p8 : 0 ≤ (x3_1 : Int) := of_decide_eq_true (by first | (with_reducible assumption) | assumption)
                have q8 : x3_1 < (a0.size : Int) := of_decide_eq_true (by first | (with_reducible assumption) | assumption)
                have hx8 := bt_at a0 x3_1
                replace p8 := eq_true p8
                replace q8 := eq_true q8
                go_wp2
                go_roundg k1
                case measure => have := HK1.out; omega
                case rel => exact ⟨(wrap64 (x3_1 + 1)), (by first | rfl | (simp; done) | (simp [*]; done)), H', ⟨by have := HK1.out; omega⟩, by repeat (first | exact Drawn0.refl _ | apply Drawn0.step)⟩
          · rw [if_neg c5] at H
            exact absurd H (by simp)
        · rw [if_neg c4] at H
          have c4b0 : decide (x3_1 < (a0.size : Int)) = false := decide_eq_false c4
          clear c4
          obtain rfl := Option.some.inj H
          go_wp2
          go_ret
          exact ⟨by first | rfl | (simp; done) | (simp [*]; done), by repeat (first | exact Drawn0.refl _ | apply Drawn0.step)⟩
  · replace c3 := Bool.eq_false_iff.mpr c3
    subst c3
    have H1 : (some false) = some r := by rw [if_neg (show ¬ (false = true) by decide)] at H; exact H
    clear H
    have H := H1
    clear H1
    obtain rfl := Option.some.inj H
    go_enter Tryd.func23, Tryd.ntmps23
    go_wp2_with (first | ((with_reducible refine gate_callee (f := 35) rfl ?_); refine goesL_ (some 6) rfl rfl Tryd.func35 (by kernel_rfl) rfl #[.int .i64 (a0.size : Int), .int .i64 1, .int .i64 9] rfl (by (try simp only [List.map_toArray, List.map_cons, List.map_nil]); first | done | rfl | (simp only [List.length_drop, List.length_take]; rfl)) ?_; (with_reducible refine (spec_l1In.calls (a0.size : Int) 1 9 false _ A2.out).mono ?_); rintro e w' ⟨rfl, ⟨nd, rfl⟩⟩; refine ⟨_, rfl, ?_⟩))
    go_ret
    exact ⟨by first | rfl | (simp; done) | (simp [*]; done), by repeat (first | exact Drawn0.refl _ | apply Drawn0.step)⟩

end Go.Proofs.YtpdcjkiejglaiaaDoor.Q

/- Laid by a program of this session (wip/tools/own_print.py) over the translation of this seat: contracts of the functions that the statement reaches. -/
namespace Go.Proofs.YtpdcjkiejglaiaaDoor.Q
open Go.RowKit Go.Proofs.YtpdcjkiejglaiaaDoorW.PrintWords Go.Proofs.YtpdcjkiejglaiaaDoorW.PrintLast Go.Proofs.YtpdcjkiejglaiaaDoorW.PrintMore
attribute [local go_sem] max2_int min2_int max_two min_two max_three min_three max_four min_four   -- for this text's walks alone
set_option linter.unusedVariables false
set_option linter.unusedSimpArgs false

/-! ### impl_IsReading: function 43 -/
def impl_IsReading.f (k : Nat) (a0 : ByteArray) : Option (Bool) := (impl_areDigits.f k a0 1 9).bind fun t101 => (some t101)
theorem impl_IsReading.mono : ∀ a0 k, LeO (impl_IsReading.f k a0) (impl_IsReading.f (k + 1) a0) := by
  intro a0 k
  unfold impl_IsReading.f
  repeat' first
      | (with_reducible exact impl_areDigits.mono _ _ _ _)
      | (with_reducible exact LeO.refl _)
      | (with_reducible exact LeO.none _)
      | (with_reducible refine LeO.ite ?_ ?_)
      | (with_reducible refine LeO.bind ?_ (fun _ => ?_))
      | exact impl_areDigits.mono _ _ _ _
      | exact LeO.none _
      | refine LeO.ite ?_ ?_
      | refine LeO.bind ?_ (fun _ => ?_)
set_option maxHeartbeats 8000000 in
set_option maxRecDepth 100000 in
theorem impl_IsReading.calls (k : Nat) (a0 : ByteArray) (r : Bool) (w : World) (h : impl_IsReading.f k a0 = some r) :
    Calls Tryd.prog 43 #[.string a0] w fun e w' => e = .returned (.bool r) ∧ Drawn0 w w' := by
  have H : ((impl_areDigits.f k a0 1 9).bind fun t101 => (some t101)) = some r := h
  clear h
  replace H := Option.bind_eq_some_iff.mp H
  obtain ⟨t101, A20, H⟩ := H
  replace H : (some t101) = some r := H
  have A2 := Aside0.mk A20
  clear A20
  obtain rfl := Option.some.inj H
  go_enter Tryd.func43, Tryd.ntmps43
  go_wp2_with (first | ((with_reducible refine gate_callee (f := 54) rfl ?_); refine goesL_ (some 4) rfl rfl Tryd.func54 (by kernel_rfl) rfl #[.string a0, .int .i64 1, .int .i64 9] rfl (by (try simp only [List.map_toArray, List.map_cons, List.map_nil]); first | done | rfl | (simp only [List.length_drop, List.length_take]; rfl)) ?_; (with_reducible refine (impl_areDigits.calls k a0 1 9 t101 _ A2.out).mono ?_); rintro e w' ⟨rfl, ⟨nd, rfl⟩⟩; refine ⟨_, rfl, ?_⟩))
  go_ret
  exact ⟨by first | rfl | (simp; done) | (simp [*]; done), by repeat (first | exact Drawn0.refl _ | apply Drawn0.step)⟩

end Go.Proofs.YtpdcjkiejglaiaaDoor.Q

/-
  Readings: both texts ask the same of a text: one to nine digits. And a lemma on loops that ask something of every place.
-/
namespace Go.Proofs.YtpdcjkiejglaiaaDoor.Q
open Go.RowKit Go.Proofs.YtpdcjkiejglaiaaDoorW.PrintWords Go.Proofs.YtpdcjkiejglaiaaDoorW.PrintLast Go.Proofs.YtpdcjkiejglaiaaDoorW.PrintMore
set_option linter.unusedVariables false
set_option linter.unusedSimpArgs false

def allF (p : Nat → Bool) : Nat → Nat → Bool
  | 0, _ => true
  | d + 1, i => p i && allF p d (i + 1)
theorem allF_iff (p : Nat → Bool) : ∀ d i, allF p d i = true ↔ ∀ j, i ≤ j → j < i + d → p j = true
  | 0, i => by simp [allF]; intro j h1 h2; omega
  | d + 1, i => by
    simp only [allF, Bool.and_eq_true, allF_iff p d (i + 1)]
    constructor
    · rintro ⟨h1, h2⟩ j hj1 hj2
      by_cases e : j = i
      · rw [e]; exact h1
      · exact h2 j (by omega) (by omega)
    · intro h
      exact ⟨h i (by omega) (by omega), fun j h1 h2 => h j (by omega) (by omega)⟩
theorem Ev_all {l : Nat → Nat → Option Bool} {p : Nat → Bool} {n : Nat} {r : Bool} (stop : Ev (fun k => l k n) r)
    (yes : ∀ i, i < n → p i = true → ∀ q, Ev (fun k => l k (i + 1)) q → Ev (fun k => l k i) q) (no : ∀ i, i < n → p i = false → Ev (fun k => l k i) false) :
    ∀ d i, i + d = n → Ev (fun k => l k i) (allF p d i && r)
  | 0, i, h => by
    obtain rfl : i = n := by omega
    simpa [allF] using stop
  | d + 1, i, h => by
    have ih := Ev_all stop yes no d (i + 1) (by omega)
    simp only [allF]
    cases hp : p i with
    | true => simpa using yes i (by omega) hp _ ih
    | false => simpa using no i (by omega) hp

theorem Ev_all_from {l : Nat → Nat → Option Bool} {p : Nat → Bool} {n m : Nat} {r : Bool} (stop : Ev (fun k => l k n) r)
    (yes : ∀ i, m ≤ i → i < n → p i = true → ∀ q, Ev (fun k => l k (i + 1)) q → Ev (fun k => l k i) q) (no : ∀ i, m ≤ i → i < n → p i = false → Ev (fun k => l k i) false) :
    ∀ d i, m ≤ i → i + d = n → Ev (fun k => l k i) (allF p d i && r)
  | 0, i, _, h => by
    obtain rfl : i = n := by omega
    simpa [allF] using stop
  | d + 1, i, hm, h => by
    have ih := Ev_all_from stop yes no d (i + 1) (by omega) (by omega)
    simp only [allF]
    cases hp : p i with
    | true => simpa using yes i hm (by omega) hp _ ih
    | false => simpa using no i hm (by omega) hp

/-- are all bytes digits? -/
def digAt (s : ByteArray) (i : Nat) : Bool := decide (48 ≤ bt s i) && decide (bt s i ≤ 57)
def isDig (s : ByteArray) : Bool := allF (digAt s) s.size 0
theorem isDig_at {s : ByteArray} (h : isDig s = true) (i : Nat) (hi : i < s.size) : 48 ≤ bt s i ∧ bt s i ≤ 57 := by
  have := (allF_iff _ _ _).1 h i (by omega) (by omega)
  simpa [digAt] using this

theorem areDigits_ev (s : ByteArray) (lo hi : Int) (hs : s.size ≤ 140737488351232) :
    Ev (fun k => impl_areDigits.f k s lo hi) (isDig s && (decide (lo ≤ (s.size : Int)) && decide ((s.size : Int) ≤ hi))) := by
  have stop : Ev (fun k => impl_areDigits.l0 k s lo hi (s.size : Int) ((s.size : Nat) : Int)) (decide (lo ≤ (s.size : Int)) && decide ((s.size : Int) ≤ hi)) := by
    refine Ev.step (f := fun _ => some (decide (lo ≤ (s.size : Int)) && decide ((s.size : Int) ≤ hi))) (fun k => ?_) (Ev.now _)
    simp only [impl_areDigits.l0]
    rw [if_neg (by omega)]
    unfold impl_within.f
    by_cases h : lo ≤ (s.size : Int)
    · rw [if_pos h]; simp [h]
    · rw [if_neg h]; simp [h]
  refine Ev_all (l := fun k i => impl_areDigits.l0 k s lo hi (s.size : Int) (i : Int)) (p := digAt s) stop ?_ ?_ s.size 0 (by omega)
  · intro i hi' hp q hq
    refine Ev.step (fun k => ?_) hq
    simp only [digAt, Bool.and_eq_true, decide_eq_true_eq] at hp
    simp only [impl_areDigits.l0]
    rw [if_pos (by omega), if_pos (by omega), if_pos (by omega), if_neg (by omega), if_neg (by omega), wrap_id (by omega) (by omega)]
    rfl
  · intro i hi' hp
    refine Ev.step (f := fun _ => some false) (fun k => ?_) (Ev.now _)
    simp only [digAt, Bool.and_eq_false_iff, decide_eq_false_iff_not] at hp
    simp only [impl_areDigits.l0]
    rw [if_pos (by omega), if_pos (by omega), if_pos (by omega)]
    by_cases h : bt s (i : Int) < 48
    · rw [if_pos h]
    · rw [if_neg h, if_pos (by omega)]

def good (s : ByteArray) : Bool := isDig s && (decide ((1 : Int) ≤ (s.size : Int)) && decide ((s.size : Int) ≤ 9))
theorem good_at {s : ByteArray} (h : good s = true) : 1 ≤ s.size ∧ s.size ≤ 9 ∧ ∀ i : Nat, i < s.size → 48 ≤ bt s i ∧ bt s i ≤ 57 := by
  simp only [good, Bool.and_eq_true, decide_eq_true_eq] at h
  exact ⟨by omega, by omega, isDig_at h.1⟩
theorem IsReading_ev (s : ByteArray) (hs : s.size ≤ 140737488351232) : Ev (fun k => impl_IsReading.f k s) (good s) := by
  unfold impl_IsReading.f
  exact Ev.bind (areDigits_ev s 1 9 hs) (Ev.now _)
theorem miGood_ev (s : ByteArray) (hs : s.size ≤ 140737488351232) : Ev (fun k => spec_miGood.f k s) (good s) := by
  unfold spec_miGood.f
  have h1 : spec_l1In.f (s.size : Int) 1 9 = some (decide ((1 : Int) ≤ (s.size : Int)) && decide ((s.size : Int) ≤ 9)) := by
    unfold spec_l1In.f
    by_cases h : (s.size : Int) ≥ 1
    · rw [if_pos h]; simp [h]
    · rw [if_neg h]; simp; omega
  simp only [h1, Option.bind_some]
  by_cases h2 : (decide ((1 : Int) ≤ (s.size : Int)) && decide ((s.size : Int) ≤ 9)) = true
  · refine Ev.pos h2 ?_
    have stop : Ev (fun k => spec_miGood.l0 k s ((s.size : Nat) : Int)) true := by
      refine Ev.step (f := fun _ => some true) (fun k => ?_) (Ev.now _)
      simp only [spec_miGood.l0]
      rw [if_neg (by omega)]
    refine Ev.eq (Ev_all (l := fun k i => spec_miGood.l0 k s (i : Int)) (p := digAt s) stop ?_ ?_ s.size 0 (by omega)) (by simp [good, isDig, h2])
    · intro i hi' hp q hq
      refine Ev.step (fun k => ?_) hq
      simp only [digAt, Bool.and_eq_true, decide_eq_true_eq] at hp
      simp only [spec_miGood.l0]
      rw [if_pos (by omega), if_pos (by omega), if_neg (by omega), if_neg (by omega), wrap_id (by omega) (by omega)]
      rfl
    · intro i hi' hp
      refine Ev.step (f := fun _ => some false) (fun k => ?_) (Ev.now _)
      simp only [digAt, Bool.and_eq_false_iff, decide_eq_false_iff_not] at hp
      simp only [spec_miGood.l0]
      rw [if_pos (by omega), if_pos (by omega)]
      by_cases h : bt s (i : Int) < 48
      · rw [if_pos h]
      · rw [if_neg h, if_pos (by omega)]
  · refine Ev.neg h2 (Ev.eq (Ev.now _) ?_)
    simp only [good]
    cases hb : (decide ((1 : Int) ≤ (s.size : Int)) && decide ((s.size : Int) ≤ 9)) with
    | true => exact absurd hb h2
    | false => simp

end Go.Proofs.YtpdcjkiejglaiaaDoor.Q

/-
  The library contracts of strings.IndexByte, Repeat, Contains (one byte), strconv.Itoa at this program, in plain words (printed by the shelf's own two commands).
-/
namespace Go.Proofs
open Go.Shelf
def Tryd.lays137_ren : Go.Shelf.Ren := ⟨fun | 137 => 49 | 217 => 63 | 266 => 77 | n => n, fun | 9 => 9 | 5 => 5 | 3 => 3 | n => n, fun | n => n⟩
theorem Tryd.lays137 : Go.Proofs.Lays.n137 Tryd.prog Tryd.lays137_ren := {
  mixed := by kernel_rfl
  f137 := Tryd.func49.trans (congrArg some (by kernel_rfl))
  f217 := Tryd.func63.trans (congrArg some (by kernel_rfl))
  f266 := Tryd.func77.trans (congrArg some (by kernel_rfl))
  t3 := Tryd.underlying3
  a3 := Tryd.isAgg3
  z3 := Tryd.sizeOf3
  v3 := Tryd.zeroValue3
  t5 := Tryd.underlying5
  a5 := Tryd.isAgg5
  z5 := Tryd.sizeOf5
  v5 := Tryd.zeroValue5
  t9 := Tryd.underlying9
  a9 := Tryd.isAgg9
  z9 := Tryd.sizeOf9
  v9 := Tryd.zeroValue9 }
open Go.RowKit in
/-- strings.IndexByte: "IndexByte returns the index of the first instance of c in s, or -1 if c is not present in s.": IT RETURNS 'Lib.indexByte s c'; the world is as it was. (LAID: no walk: one application.) -/
theorem Tryd.strings_IndexByte (s : ByteArray) (c : Int) (w : World) :
    Calls Tryd.prog 49 #[.string s, .int .u8 c] w fun e w' => e = .returned (.int .i64 (Lib.indexByte s.data.toList c.toNat.toUInt8)) ∧ w' = w := Any.strings_IndexByte Tryd.lays137 s c w
def Tryd.laysM171_ren : Go.Shelf.Ren := ⟨fun | 171 => 21 | 243 => 40 | 246 => 51 | 283 => 64 | 284 => 65 | 285 => 66 | 286 => 67 | 129 => 79 | 317 => 78 | 318 => 80 | 319 => 81 | 320 => 82 | 337 => 89 | 338 => 90 | n => n, fun | 3 => 3 | 9 => 9 | 2 => 2 | 4 => 4 | 171 => 73 | 0 => 0 | 53 => 74 | 37 => 46 | 5 => 5 | 173 => 77 | 212 => 87 | 51 => 80 | 20 => 20 | 213 => 88 | 46 => 60 | 232 => 96 | 233 => 97 | n => n, fun | 17 => 0 | 18 => 2 | 19 => 3 | n => n⟩
theorem Tryd.laysM171 : Go.Proofs.LaysM.n171 Tryd.prog Tryd.laysM171_ren := {
  mixed := by kernel_rfl
  f129 := Tryd.func79.trans (congrArg some (by kernel_rfl))
  f171 := Tryd.func21.trans (congrArg some (by kernel_rfl))
  f243 := Tryd.func40.trans (congrArg some (by kernel_rfl))
  f246 := Tryd.func51.trans (congrArg some (by kernel_rfl))
  f283 := Tryd.func64.trans (congrArg some (by kernel_rfl))
  f284 := Tryd.func65.trans (congrArg some (by kernel_rfl))
  f285 := Tryd.func66.trans (congrArg some (by kernel_rfl))
  f286 := Tryd.func67.trans (congrArg some (by kernel_rfl))
  f317 := Tryd.func78.trans (congrArg some (by kernel_rfl))
  f318 := Tryd.func80.trans (congrArg some (by kernel_rfl))
  f319 := Tryd.func81.trans (congrArg some (by kernel_rfl))
  f320 := Tryd.func82.trans (congrArg some (by kernel_rfl))
  f337 := Tryd.func89.trans (congrArg some (by kernel_rfl))
  f338 := Tryd.func90.trans (congrArg some (by kernel_rfl))
  t0 := Tryd.underlying0
  a0 := Tryd.isAgg0
  z0 := Tryd.sizeOf0
  v0 := Tryd.zeroValue0
  t2 := Tryd.underlying2
  a2 := Tryd.isAgg2
  z2 := Tryd.sizeOf2
  v2 := Tryd.zeroValue2
  t3 := Tryd.underlying3
  a3 := Tryd.isAgg3
  z3 := Tryd.sizeOf3
  v3 := Tryd.zeroValue3
  t4 := Tryd.underlying4
  a4 := Tryd.isAgg4
  z4 := Tryd.sizeOf4
  v4 := Tryd.zeroValue4
  t5 := Tryd.underlying5
  a5 := Tryd.isAgg5
  z5 := Tryd.sizeOf5
  v5 := Tryd.zeroValue5
  t9 := Tryd.underlying9
  a9 := Tryd.isAgg9
  z9 := Tryd.sizeOf9
  v9 := Tryd.zeroValue9
  t20 := Tryd.underlying20
  a20 := Tryd.isAgg20
  z20 := Tryd.sizeOf20
  v20 := Tryd.zeroValue20
  t37 := Tryd.underlying46
  a37 := Tryd.isAgg46
  z37 := Tryd.sizeOf46
  v37 := Tryd.zeroValue46
  t46 := Tryd.underlying60
  a46 := Tryd.isAgg60
  z46 := Tryd.sizeOf60
  v46 := Tryd.zeroValue60
  t51 := Tryd.underlying80
  a51 := Tryd.isAgg80
  z51 := Tryd.sizeOf80
  v51 := Tryd.zeroValue80
  t53 := Tryd.underlying74
  a53 := Tryd.isAgg74
  z53 := Tryd.sizeOf74
  v53 := Tryd.zeroValue74
  t171 := Tryd.underlying73
  a171 := Tryd.isAgg73
  z171 := Tryd.sizeOf73
  v171 := Tryd.zeroValue73
  t173 := Tryd.underlying77
  a173 := Tryd.isAgg77
  z173 := Tryd.sizeOf77
  v173 := Tryd.zeroValue77
  t212 := Tryd.underlying87
  a212 := Tryd.isAgg87
  z212 := Tryd.sizeOf87
  v212 := Tryd.zeroValue87
  t213 := Tryd.underlying88
  a213 := Tryd.isAgg88
  z213 := Tryd.sizeOf88
  t232 := Tryd.underlying96
  a232 := Tryd.isAgg96
  z232 := Tryd.sizeOf96
  v232 := Tryd.zeroValue96
  t233 := Tryd.underlying97
  a233 := Tryd.isAgg97
  z233 := Tryd.sizeOf97
  v233 := Tryd.zeroValue97
  g17 := by kernel_rfl
  g18 := by kernel_rfl
  g19 := by kernel_rfl
  i0 := by kernel_rfl
  i2 := by kernel_rfl
  i3 := by kernel_rfl
  i4 := by kernel_rfl
  i5 := by kernel_rfl
  i9 := by kernel_rfl
  i20 := by kernel_rfl
  i37 := by kernel_rfl
  i46 := by kernel_rfl
  i51 := by kernel_rfl
  i53 := by kernel_rfl
  i171 := by kernel_rfl
  i173 := by kernel_rfl
  i212 := by kernel_rfl
  i232 := by kernel_rfl
  i233 := by kernel_rfl
  m17 := by kernel_rfl
  m18 := by kernel_rfl
  m19 := by kernel_rfl }
open Go.RowKit Go.Sort Go.Lib in
/-- strconv.Itoa: "Itoa is equivalent to FormatInt(int64(i), 10).": i's DECIMAL NUMERAL ('Lib.itoa': a '-' where i is negative, then the digits), FOR EVERY int. The world behind the call: the world before it, new blocks behind the heap (the library's 'var a [24]byte'), draws. (LAID: no walk: one application.) -/
theorem Tryd.strconv_Itoa (n : Int) (h0 : -9223372036854775808 ≤ n) (h1 : n ≤ 9223372036854775807) (w : World) (htab : Lib.TabIs Tryd.prog w "internal/strconv.uint64pow10" .u64 Lib.pow10Tab) :
    Calls Tryd.prog 21 #[.int .i64 n] w fun e w' => e = .returned (.string ⟨(Lib.itoa n).toArray⟩) ∧ ∃ k os, w' = grow (w.drewN k) os := Any.strconv_Itoa Tryd.laysM171 n h0 h1 w htab
def Tryd.lays144_ren : Go.Shelf.Ren := ⟨fun | 144 => 45 | 143 => 55 | 219 => 71 | 217 => 63 | 225 => 84 | 224 => 85 | 267 => 86 | 266 => 77 | 314 => 91 | n => n, fun | 9 => 9 | 4 => 4 | 3 => 3 | 5 => 5 | 46 => 60 | 146 => 81 | 51 => 80 | n => n, fun | 1 => 1 | n => n⟩
theorem Tryd.lays144 : Go.Proofs.Lays.n144 Tryd.prog Tryd.lays144_ren := {
  mixed := by kernel_rfl
  f143 := Tryd.func55.trans (congrArg some (by kernel_rfl))
  f144 := Tryd.func45.trans (congrArg some (by kernel_rfl))
  f217 := Tryd.func63.trans (congrArg some (by kernel_rfl))
  f219 := Tryd.func71.trans (congrArg some (by kernel_rfl))
  f224 := Tryd.func85.trans (congrArg some (by kernel_rfl))
  f225 := Tryd.func84.trans (congrArg some (by kernel_rfl))
  f266 := Tryd.func77.trans (congrArg some (by kernel_rfl))
  f267 := Tryd.func86.trans (congrArg some (by kernel_rfl))
  f314 := Tryd.func91.trans (congrArg some (by kernel_rfl))
  t3 := Tryd.underlying3
  a3 := Tryd.isAgg3
  z3 := Tryd.sizeOf3
  v3 := Tryd.zeroValue3
  t4 := Tryd.underlying4
  a4 := Tryd.isAgg4
  z4 := Tryd.sizeOf4
  v4 := Tryd.zeroValue4
  t5 := Tryd.underlying5
  a5 := Tryd.isAgg5
  z5 := Tryd.sizeOf5
  v5 := Tryd.zeroValue5
  t9 := Tryd.underlying9
  a9 := Tryd.isAgg9
  z9 := Tryd.sizeOf9
  v9 := Tryd.zeroValue9
  t46 := Tryd.underlying60
  a46 := Tryd.isAgg60
  z46 := Tryd.sizeOf60
  v46 := Tryd.zeroValue60
  t51 := Tryd.underlying80
  a51 := Tryd.isAgg80
  z51 := Tryd.sizeOf80
  v51 := Tryd.zeroValue80
  t146 := Tryd.underlying81
  a146 := Tryd.isAgg81
  z146 := Tryd.sizeOf81
  v146 := Tryd.zeroValue81
  g1 := by kernel_rfl }
open Go.RowKit Go.Lib in
/-- strings.Contains: "Contains reports whether substr is within s.": AT A substr OF ONE BYTE c: IT RETURNS 'decide (0 ≤ Lib.indexByte s c)'; the world is as it was. (LAID: no walk: one application.) -/
theorem Tryd.strings_Contains_one (s : ByteArray) (c : UInt8) (w : World) :
    Calls Tryd.prog 45 #[.string s, .string ⟨#[c]⟩] w fun e w' => e = .returned (.bool (decide (0 ≤ Lib.indexByte s.data.toList c))) ∧ w' = w := Any.strings_Contains_one Tryd.lays144 s c w
def Tryd.lays105_ren : Go.Shelf.Ren := ⟨fun | 105 => 47 | 212 => 57 | 99 => 58 | 165 => 59 | 166 => 60 | 170 => 61 | 169 => 62 | 263 => 72 | 264 => 73 | 206 => 74 | 240 => 75 | 241 => 76 | 276 => 87 | 277 => 88 | n => n, fun | 9 => 9 | 3 => 3 | 4 => 4 | 20 => 20 | 0 => 0 | 46 => 60 | 109 => 61 | 5 => 5 | 72 => 65 | 76 => 69 | 51 => 80 | 146 => 81 | 53 => 74 | 148 => 83 | 70 => 63 | 37 => 46 | 75 => 68 | 127 => 85 | 164 => 91 | 80 => 72 | n => n, fun | n => n⟩
theorem Tryd.lays105 : Go.Proofs.Lays.n105 Tryd.prog Tryd.lays105_ren := {
  mixed := by kernel_rfl
  f99 := Tryd.func58.trans (congrArg some (by kernel_rfl))
  f105 := Tryd.func47.trans (congrArg some (by kernel_rfl))
  f165 := Tryd.func59.trans (congrArg some (by kernel_rfl))
  f166 := Tryd.func60.trans (congrArg some (by kernel_rfl))
  f169 := Tryd.func62.trans (congrArg some (by kernel_rfl))
  f170 := Tryd.func61.trans (congrArg some (by kernel_rfl))
  f206 := Tryd.func74.trans (congrArg some (by kernel_rfl))
  f212 := Tryd.func57.trans (congrArg some (by kernel_rfl))
  f240 := Tryd.func75.trans (congrArg some (by kernel_rfl))
  f241 := Tryd.func76.trans (congrArg some (by kernel_rfl))
  f263 := Tryd.func72.trans (congrArg some (by kernel_rfl))
  f264 := Tryd.func73.trans (congrArg some (by kernel_rfl))
  f276 := Tryd.func87.trans (congrArg some (by kernel_rfl))
  f277 := Tryd.func88.trans (congrArg some (by kernel_rfl))
  t0 := Tryd.underlying0
  a0 := Tryd.isAgg0
  z0 := Tryd.sizeOf0
  v0 := Tryd.zeroValue0
  t3 := Tryd.underlying3
  a3 := Tryd.isAgg3
  z3 := Tryd.sizeOf3
  v3 := Tryd.zeroValue3
  t4 := Tryd.underlying4
  a4 := Tryd.isAgg4
  z4 := Tryd.sizeOf4
  v4 := Tryd.zeroValue4
  t5 := Tryd.underlying5
  a5 := Tryd.isAgg5
  z5 := Tryd.sizeOf5
  v5 := Tryd.zeroValue5
  t9 := Tryd.underlying9
  a9 := Tryd.isAgg9
  z9 := Tryd.sizeOf9
  v9 := Tryd.zeroValue9
  t20 := Tryd.underlying20
  a20 := Tryd.isAgg20
  z20 := Tryd.sizeOf20
  v20 := Tryd.zeroValue20
  t37 := Tryd.underlying46
  a37 := Tryd.isAgg46
  z37 := Tryd.sizeOf46
  v37 := Tryd.zeroValue46
  t46 := Tryd.underlying60
  a46 := Tryd.isAgg60
  z46 := Tryd.sizeOf60
  v46 := Tryd.zeroValue60
  t51 := Tryd.underlying80
  a51 := Tryd.isAgg80
  z51 := Tryd.sizeOf80
  v51 := Tryd.zeroValue80
  t53 := Tryd.underlying74
  a53 := Tryd.isAgg74
  z53 := Tryd.sizeOf74
  v53 := Tryd.zeroValue74
  t70 := Tryd.underlying63
  a70 := Tryd.isAgg63
  z70 := Tryd.sizeOf63
  v70 := Tryd.zeroValue63
  t72 := Tryd.underlying65
  a72 := Tryd.isAgg65
  z72 := Tryd.sizeOf65
  v72 := Tryd.zeroValue65
  t75 := Tryd.underlying68
  a75 := Tryd.isAgg68
  z75 := Tryd.sizeOf68
  v75 := Tryd.zeroValue68
  t76 := Tryd.underlying69
  a76 := Tryd.isAgg69
  z76 := Tryd.sizeOf69
  v76 := Tryd.zeroValue69
  t109 := Tryd.underlying61
  a109 := Tryd.isAgg61
  z109 := Tryd.sizeOf61
  v109 := Tryd.zeroValue61
  t127 := Tryd.underlying85
  a127 := Tryd.isAgg85
  z127 := Tryd.sizeOf85
  v127 := Tryd.zeroValue85
  t146 := Tryd.underlying81
  a146 := Tryd.isAgg81
  z146 := Tryd.sizeOf81
  v146 := Tryd.zeroValue81
  t148 := Tryd.underlying83
  a148 := Tryd.isAgg83
  z148 := Tryd.sizeOf83
  v148 := Tryd.zeroValue83
  t164 := Tryd.underlying91
  a164 := Tryd.isAgg91
  z164 := Tryd.sizeOf91
  v164 := Tryd.zeroValue91 }
theorem Tryd.Builder_Extra_105 : Builder.Extra Tryd.prog Tryd.lays105_ren := {
  sizeBuilder := by kernel_rfl
  liesBuilder := by kernel_rfl
  t5 := Tryd.underlying5
  a5 := Tryd.isAgg5
  z5 := Tryd.sizeOf5
  v5 := Tryd.zeroValue5
  infoByte := by kernel_rfl
  cellsByte := by kernel_rfl
  sizeByte := by kernel_rfl
  neB5 := by decide }
open Go.RowKit Go.Lib in
/-- **strings.Repeat: count ≥ 0, the result within one allocation: count copies of s.** (LAID: no walk: one application.) -/
theorem Tryd.strings_Repeat (s : ByteArray) (c : Nat) (w : World) (hc : c ≤ 9223372036854775807) (hlen : s.size * c ≤ 140737488355328) :
    Calls Tryd.prog 47 #[.string s, .int .i64 c] w fun e w' => e = .returned (.string ⟨(Lib.repeatL s.data.toList c).toArray⟩) ∧ Below w.heap.size w w' := Any.strings_Repeat Tryd.lays105 Tryd.Builder_Extra_105 s c w hc hlen
end Go.Proofs

/-
  'strings.IndexByte' in the form of the other contracts: it returns the first place of the byte in the text, or -1.
-/
namespace Go.Proofs.YtpdcjkiejglaiaaDoor.Q
open Go.RowKit Go.Proofs.YtpdcjkiejglaiaaDoorW.PrintWords Go.Proofs.YtpdcjkiejglaiaaDoorW.PrintLast Go.Proofs.YtpdcjkiejglaiaaDoorW.PrintMore

def strings_IndexByte.f (a0 : ByteArray) (a1 : Int) : Option Int := some (Lib.indexByte a0.data.toList a1.toNat.toUInt8)
theorem strings_IndexByte.calls (a0 : ByteArray) (a1 : Int) (r : Int) (w : World) (h : strings_IndexByte.f a0 a1 = some r) :
    Calls Tryd.prog 49 #[.string a0, .int .u8 a1] w fun e w' => e = .returned (.int .i64 r) ∧ Drawn0 w w' := by
  obtain rfl := Option.some.inj h
  refine (Tryd.strings_IndexByte a0 a1 w).mono ?_
  rintro e w' ⟨rfl, rfl⟩
  exact ⟨rfl, Drawn0.refl _⟩

end Go.Proofs.YtpdcjkiejglaiaaDoor.Q

/- Laid by a program of this session (wip/tools/own_print.py) over the translation of this seat: contracts of the functions that the statement reaches. -/
namespace Go.Proofs.YtpdcjkiejglaiaaDoor.Q
open Go.RowKit Go.Proofs.YtpdcjkiejglaiaaDoorW.PrintWords Go.Proofs.YtpdcjkiejglaiaaDoorW.PrintLast Go.Proofs.YtpdcjkiejglaiaaDoorW.PrintMore
attribute [local go_sem] max2_int min2_int max_two min_two max_three min_three max_four min_four   -- for this text's walks alone
set_option linter.unusedVariables false
set_option linter.unusedSimpArgs false

/-! ### impl_upside: function 48 -/
def impl_upside.j0 : Nat → Int → Int → Bool → Option (Int)
  | 0, _, _, _ => none
  | k + 1, x0, x3, x4 => if x4 = true then (some x0) else (if x3 = 54 then (some 57) else (if x3 = 57 then (some 54) else (some 0)))
def impl_upside.f (k : Nat) (a0 : Int) : Option (Int) := if a0 = 48 then (impl_upside.j0 k a0 a0 (a0 == 48)) else (if a0 = 49 then (impl_upside.j0 k a0 a0 (a0 == 49)) else (impl_upside.j0 k a0 a0 (a0 == 56)))
theorem impl_upside.mono_l : ∀ k, (∀ y0 y1 y2, LeO (impl_upside.j0 k y0 y1 y2) (impl_upside.j0 (k + 1) y0 y1 y2))
  | 0 => fun _ _ _ r h => by simp [impl_upside.j0] at h
  | k + 1 => by
    have ih0 := impl_upside.mono_l k
    · intro y0 y1 y2
      unfold impl_upside.j0
      repeat' first
      | (with_reducible exact ih0 _ _ _)
      | (with_reducible exact LeO.refl _)
      | (with_reducible exact LeO.none _)
      | (with_reducible refine LeO.ite ?_ ?_)
      | (with_reducible refine LeO.bind ?_ (fun _ => ?_))
      | exact ih0 _ _ _
      | exact LeO.none _
      | refine LeO.ite ?_ ?_
      | refine LeO.bind ?_ (fun _ => ?_)
theorem impl_upside.mono : ∀ a0 k, LeO (impl_upside.f k a0) (impl_upside.f (k + 1) a0) := by
  intro a0 k
  have ih0 := impl_upside.mono_l k
  unfold impl_upside.f
  repeat' first
      | (with_reducible exact ih0 _ _ _)
      | (with_reducible exact LeO.refl _)
      | (with_reducible exact LeO.none _)
      | (with_reducible refine LeO.ite ?_ ?_)
      | (with_reducible refine LeO.bind ?_ (fun _ => ?_))
      | exact ih0 _ _ _
      | exact LeO.none _
      | refine LeO.ite ?_ ?_
      | refine LeO.bind ?_ (fun _ => ?_)
set_option maxHeartbeats 8000000 in
set_option maxRecDepth 100000 in
theorem impl_upside.calls (k : Nat) (a0 : Int) (r : Int) (w : World) (h : impl_upside.f k a0 = some r) :
    Calls Tryd.prog 48 #[.int .u8 a0] w fun e w' => e = .returned (.int .u8 r) ∧ Drawn0 w w' := by
  have H : (if a0 = 48 then (impl_upside.j0 k a0 a0 (a0 == 48)) else (if a0 = 49 then (impl_upside.j0 k a0 a0 (a0 == 49)) else (impl_upside.j0 k a0 a0 (a0 == 56)))) = some r := h
  clear h
  have HC2 := Aside0.mk H
  clear H
  go_enter Tryd.func48, Tryd.ntmps48
  go_upto_if 4 with (fail)
  go_cut [4] (fun v4 wc => ∃ (kq : Nat) (x4_1 : Bool), v4 = .bool x4_1 ∧ Aside0 (impl_upside.j0 kq a0 a0 x4_1 = some r) ∧ Aside0 (kq ≤ k) ∧ Drawn0 w wc)
  case first =>
    have H := HC2.out
    clear HC2
    by_cases c3 : a0 = 48
    · rw [if_pos c3] at H
      have c3b0 : (a0 == 48) = true := beq_iff_eq.mpr c3
      have c3b1 : (a0 != 48) = false := bne_eq_false_iff_eq.mpr c3
      clear c3
      (first | rw [c3b0] | (simp only [i64_w, i32_w]; rw [c3b0]) | skip)
      have H' := Aside0.mk H
      clear H
      go_wp2
      go_meet
      case rel => exact ⟨_, ((a0 == 48)), (by first | rfl | (simp; done) | (simp [*]; done)), H', ⟨by first | omega | exact Nat.le_refl _⟩, by repeat (first | exact Drawn0.refl _ | apply Drawn0.step)⟩
    · rw [if_neg c3] at H
      have c3b0 : (a0 == 48) = false := beq_eq_false_iff_ne.mpr c3
      have c3b1 : (a0 != 48) = true := bne_iff_ne.mpr c3
      (first | rw [c3b0] | (simp only [i64_w, i32_w]; rw [c3b0]) | skip)
      by_cases c4 : a0 = 49
      · rw [if_pos c4] at H
        have c4b0 : (a0 == 49) = true := beq_iff_eq.mpr c4
        have c4b1 : (a0 != 49) = false := bne_eq_false_iff_eq.mpr c4
        clear c4
        have H' := Aside0.mk H
        clear H
        go_wp2
        go_meet
        case rel => exact ⟨_, ((a0 == 49)), (by first | rfl | (simp; done) | (simp [*]; done)), H', ⟨by first | omega | exact Nat.le_refl _⟩, by repeat (first | exact Drawn0.refl _ | apply Drawn0.step)⟩
      · rw [if_neg c4] at H
        have c4b0 : (a0 == 49) = false := beq_eq_false_iff_ne.mpr c4
        have c4b1 : (a0 != 49) = true := bne_iff_ne.mpr c4
        have H' := Aside0.mk H
        clear H
        go_wp2
        go_meet
        case rel => exact ⟨_, ((a0 == 56)), (by first | rfl | (simp; done) | (simp [*]; done)), H', ⟨by first | omega | exact Nat.le_refl _⟩, by repeat (first | exact Drawn0.refl _ | apply Drawn0.step)⟩
  case rest =>
    clear HC2
    try clear p2
    try clear c3
    try clear c3b0
    try clear c3b1
    try clear c4
    try clear c4b0
    try clear c4b1
    obtain ⟨kq, x4_1, rfl, HA, HJ1, ⟨mc1, rfl⟩⟩ := hcut
    cases kq with
    | zero => exact absurd HA.out (by simp [impl_upside.j0])
    | succ kj1 =>
      have H := HA.out
      clear HA
      simp only [impl_upside.j0] at H
      by_cases c5 : x4_1 = true
      · subst c5
        have H1 : (some a0) = some r := by rw [if_pos rfl] at H; exact H
        clear H
        have H := H1
        clear H1
        obtain rfl := Option.some.inj H
        go_wp2
        go_ret
        exact ⟨by first | rfl | (simp; done) | (simp [*]; done), by repeat (first | exact Drawn0.refl _ | apply Drawn0.step)⟩
      · replace c5 := Bool.eq_false_iff.mpr c5
        subst c5
        have H1 : (if a0 = 54 then (some 57) else (if a0 = 57 then (some 54) else (some 0))) = some r := by rw [if_neg (show ¬ (false = true) by decide)] at H; exact H
        clear H
        have H := H1
        clear H1
        by_cases c6 : a0 = 54
        · rw [if_pos c6] at H
          have c6b0 : (a0 == 54) = true := beq_iff_eq.mpr c6
          have c6b1 : (a0 != 54) = false := bne_eq_false_iff_eq.mpr c6
          clear c6
          obtain rfl := Option.some.inj H
          go_wp2
          go_ret
          exact ⟨by first | rfl | (simp; done) | (simp [*]; done), by repeat (first | exact Drawn0.refl _ | apply Drawn0.step)⟩
        · rw [if_neg c6] at H
          have c6b0 : (a0 == 54) = false := beq_eq_false_iff_ne.mpr c6
          have c6b1 : (a0 != 54) = true := bne_iff_ne.mpr c6
          by_cases c7 : a0 = 57
          · rw [if_pos c7] at H
            have c7b0 : (a0 == 57) = true := beq_iff_eq.mpr c7
            have c7b1 : (a0 != 57) = false := bne_eq_false_iff_eq.mpr c7
            clear c7
            obtain rfl := Option.some.inj H
            go_wp2
            go_ret
            exact ⟨by first | rfl | (simp; done) | (simp [*]; done), by repeat (first | exact Drawn0.refl _ | apply Drawn0.step)⟩
          · rw [if_neg c7] at H
            have c7b0 : (a0 == 57) = false := beq_eq_false_iff_ne.mpr c7
            have c7b1 : (a0 != 57) = true := bne_iff_ne.mpr c7
            obtain rfl := Option.some.inj H
            go_wp2
            go_ret
            exact ⟨by first | rfl | (simp; done) | (simp [*]; done), by repeat (first | exact Drawn0.refl _ | apply Drawn0.step)⟩

end Go.Proofs.YtpdcjkiejglaiaaDoor.Q

/-
  'may' (can a text begin a reading of a kind with so many digits): what it returns, kind by kind. Laid by a program of this session; one arm (upside down, two calls in one statement) written by hand.
-/
namespace Go.Proofs.YtpdcjkiejglaiaaDoor.Q
open Go.RowKit Go.Proofs.YtpdcjkiejglaiaaDoorW.PrintWords Go.Proofs.YtpdcjkiejglaiaaDoorW.PrintLast Go.Proofs.YtpdcjkiejglaiaaDoorW.PrintMore
attribute [local go_sem] max2_int min2_int max_two min_two max_three min_three max_four min_four   -- for this text's walks alone
set_option linter.unusedVariables false
set_option linter.unusedSimpArgs false

/-! ### impl_may: function 61 -/
def impl_may.f (k : Nat) (a0 : Int) (a1 : ByteArray) (a2 : Int) : Option (Bool) := if 0 ≤ (wrap64 ((a1.size : Int) - 1)) then (if (wrap64 ((a1.size : Int) - 1)) < (a1.size : Int) then (if a0 = 97 then (if 0 < (a1.size : Int) then (some ((bt a1 (wrap64 ((a1.size : Int) - 1))) == (bt a1 0))) else (none)) else (if a0 = 109 then (if (wrap64 ((wrap64 (a2 - 1)) - (wrap64 ((a1.size : Int) - 1)))) > (wrap64 ((a1.size : Int) - 1)) then (some true) else (if 0 ≤ (wrap64 ((wrap64 (a2 - 1)) - (wrap64 ((a1.size : Int) - 1)))) then (if (wrap64 ((wrap64 (a2 - 1)) - (wrap64 ((a1.size : Int) - 1)))) < (a1.size : Int) then (some ((bt a1 (wrap64 ((wrap64 (a2 - 1)) - (wrap64 ((a1.size : Int) - 1))))) == (bt a1 (wrap64 ((a1.size : Int) - 1))))) else (none)) else (none))) else (if a0 = 117 then ((impl_upside.f k (bt a1 (wrap64 ((a1.size : Int) - 1)))).bind fun t179 => (if t179 = 0 then (some false) else (if (wrap64 ((wrap64 (a2 - 1)) - (wrap64 ((a1.size : Int) - 1)))) > (wrap64 ((a1.size : Int) - 1)) then (some true) else (if 0 ≤ (wrap64 ((wrap64 (a2 - 1)) - (wrap64 ((a1.size : Int) - 1)))) then (if (wrap64 ((wrap64 (a2 - 1)) - (wrap64 ((a1.size : Int) - 1)))) < (a1.size : Int) then ((impl_upside.f k (bt a1 (wrap64 ((a1.size : Int) - 1)))).bind fun t180 => (some ((bt a1 (wrap64 ((wrap64 (a2 - 1)) - (wrap64 ((a1.size : Int) - 1))))) == t180))) else (none)) else (none))))) else (if a0 = 114 then (if (wrap64 ((a1.size : Int) - 1)) = 0 then (some (decide ((wrap64 ((((bt a1 (wrap64 ((a1.size : Int) - 1))) - 48) % 256) + (wrap64 (a2 - (a1.size : Int))))) ≤ 9))) else (if 0 ≤ (wrap64 ((wrap64 ((a1.size : Int) - 1)) - 1)) then (if (wrap64 ((wrap64 ((a1.size : Int) - 1)) - 1)) < (a1.size : Int) then (if (bt a1 (wrap64 ((wrap64 ((a1.size : Int) - 1)) - 1))) < (bt a1 (wrap64 ((a1.size : Int) - 1))) then (some (decide ((wrap64 ((((bt a1 (wrap64 ((a1.size : Int) - 1))) - 48) % 256) + (wrap64 (a2 - (a1.size : Int))))) ≤ 9))) else (some false)) else (none)) else (none))) else (if a0 = 102 then (if (wrap64 ((a1.size : Int) - 1)) = 0 then (some (decide ((((bt a1 (wrap64 ((a1.size : Int) - 1))) - 48) % 256) ≥ (wrap64 (a2 - (a1.size : Int)))))) else (if 0 ≤ (wrap64 ((wrap64 ((a1.size : Int) - 1)) - 1)) then (if (wrap64 ((wrap64 ((a1.size : Int) - 1)) - 1)) < (a1.size : Int) then (if (bt a1 (wrap64 ((wrap64 ((a1.size : Int) - 1)) - 1))) > (bt a1 (wrap64 ((a1.size : Int) - 1))) then (some (decide ((((bt a1 (wrap64 ((a1.size : Int) - 1))) - 48) % 256) ≥ (wrap64 (a2 - (a1.size : Int)))))) else (some false)) else (none)) else (none))) else (if (wrap64 ((a1.size : Int) - 1)) ≤ (a1.size : Int) then ((strings_IndexByte.f (a1.extract 0 ((wrap64 ((a1.size : Int) - 1)) : Int).toNat) (bt a1 (wrap64 ((a1.size : Int) - 1)))).bind fun t181 => (some (decide (t181 < 0)))) else (none))))))) else (none)) else (none)
theorem impl_may.mono : ∀ a0 a1 a2 k, LeO (impl_may.f k a0 a1 a2) (impl_may.f (k + 1) a0 a1 a2) := by
  intro a0 a1 a2 k
  unfold impl_may.f
  repeat' first
      | (with_reducible exact impl_upside.mono _ _)
      | (with_reducible exact LeO.refl _)
      | (with_reducible exact LeO.none _)
      | (with_reducible refine LeO.ite ?_ ?_)
      | (with_reducible refine LeO.bind ?_ (fun _ => ?_))
      | exact impl_upside.mono _ _
      | exact LeO.none _
      | refine LeO.ite ?_ ?_
      | refine LeO.bind ?_ (fun _ => ?_)
set_option maxHeartbeats 8000000 in
set_option maxRecDepth 100000 in
theorem impl_may.calls (k : Nat) (a0 : Int) (a1 : ByteArray) (a2 : Int) (r : Bool) (w : World) (h : impl_may.f k a0 a1 a2 = some r) :
    Calls Tryd.prog 30 #[.int .u8 a0, .string a1, .int .i64 a2] w fun e w' => e = .returned (.bool r) ∧ Drawn0 w w' := by
  have H : (if 0 ≤ (wrap64 ((a1.size : Int) - 1)) then (if (wrap64 ((a1.size : Int) - 1)) < (a1.size : Int) then (if a0 = 97 then (if 0 < (a1.size : Int) then (some ((bt a1 (wrap64 ((a1.size : Int) - 1))) == (bt a1 0))) else (none)) else (if a0 = 109 then (if (wrap64 ((wrap64 (a2 - 1)) - (wrap64 ((a1.size : Int) - 1)))) > (wrap64 ((a1.size : Int) - 1)) then (some true) else (if 0 ≤ (wrap64 ((wrap64 (a2 - 1)) - (wrap64 ((a1.size : Int) - 1)))) then (if (wrap64 ((wrap64 (a2 - 1)) - (wrap64 ((a1.size : Int) - 1)))) < (a1.size : Int) then (some ((bt a1 (wrap64 ((wrap64 (a2 - 1)) - (wrap64 ((a1.size : Int) - 1))))) == (bt a1 (wrap64 ((a1.size : Int) - 1))))) else (none)) else (none))) else (if a0 = 117 then ((impl_upside.f k (bt a1 (wrap64 ((a1.size : Int) - 1)))).bind fun t179 => (if t179 = 0 then (some false) else (if (wrap64 ((wrap64 (a2 - 1)) - (wrap64 ((a1.size : Int) - 1)))) > (wrap64 ((a1.size : Int) - 1)) then (some true) else (if 0 ≤ (wrap64 ((wrap64 (a2 - 1)) - (wrap64 ((a1.size : Int) - 1)))) then (if (wrap64 ((wrap64 (a2 - 1)) - (wrap64 ((a1.size : Int) - 1)))) < (a1.size : Int) then ((impl_upside.f k (bt a1 (wrap64 ((a1.size : Int) - 1)))).bind fun t180 => (some ((bt a1 (wrap64 ((wrap64 (a2 - 1)) - (wrap64 ((a1.size : Int) - 1))))) == t180))) else (none)) else (none))))) else (if a0 = 114 then (if (wrap64 ((a1.size : Int) - 1)) = 0 then (some (decide ((wrap64 ((((bt a1 (wrap64 ((a1.size : Int) - 1))) - 48) % 256) + (wrap64 (a2 - (a1.size : Int))))) ≤ 9))) else (if 0 ≤ (wrap64 ((wrap64 ((a1.size : Int) - 1)) - 1)) then (if (wrap64 ((wrap64 ((a1.size : Int) - 1)) - 1)) < (a1.size : Int) then (if (bt a1 (wrap64 ((wrap64 ((a1.size : Int) - 1)) - 1))) < (bt a1 (wrap64 ((a1.size : Int) - 1))) then (some (decide ((wrap64 ((((bt a1 (wrap64 ((a1.size : Int) - 1))) - 48) % 256) + (wrap64 (a2 - (a1.size : Int))))) ≤ 9))) else (some false)) else (none)) else (none))) else (if a0 = 102 then (if (wrap64 ((a1.size : Int) - 1)) = 0 then (some (decide ((((bt a1 (wrap64 ((a1.size : Int) - 1))) - 48) % 256) ≥ (wrap64 (a2 - (a1.size : Int)))))) else (if 0 ≤ (wrap64 ((wrap64 ((a1.size : Int) - 1)) - 1)) then (if (wrap64 ((wrap64 ((a1.size : Int) - 1)) - 1)) < (a1.size : Int) then (if (bt a1 (wrap64 ((wrap64 ((a1.size : Int) - 1)) - 1))) > (bt a1 (wrap64 ((a1.size : Int) - 1))) then (some (decide ((((bt a1 (wrap64 ((a1.size : Int) - 1))) - 48) % 256) ≥ (wrap64 (a2 - (a1.size : Int)))))) else (some false)) else (none)) else (none))) else (if (wrap64 ((a1.size : Int) - 1)) ≤ (a1.size : Int) then ((strings_IndexByte.f (a1.extract 0 ((wrap64 ((a1.size : Int) - 1)) : Int).toNat) (bt a1 (wrap64 ((a1.size : Int) - 1)))).bind fun t181 => (some (decide (t181 < 0)))) else (none))))))) else (none)) else (none)) = some r := h
  clear h
  obtain ⟨ji4, hji4⟩ : ∃ j_ : Int, (wrap64 ((a1.size : Int) - 1)) = j_ := ⟨_, rfl⟩
  replace H : (if 0 ≤ (ji4) then (if (ji4) < (a1.size : Int) then (if a0 = 97 then (if 0 < (a1.size : Int) then (some ((bt a1 (ji4)) == (bt a1 0))) else (none)) else (if a0 = 109 then (if (wrap64 ((wrap64 (a2 - 1)) - (ji4))) > (ji4) then (some true) else (if 0 ≤ (wrap64 ((wrap64 (a2 - 1)) - (ji4))) then (if (wrap64 ((wrap64 (a2 - 1)) - (ji4))) < (a1.size : Int) then (some ((bt a1 (wrap64 ((wrap64 (a2 - 1)) - (ji4)))) == (bt a1 (ji4)))) else (none)) else (none))) else (if a0 = 117 then ((impl_upside.f k (bt a1 (ji4))).bind fun t179 => (if t179 = 0 then (some false) else (if (wrap64 ((wrap64 (a2 - 1)) - (ji4))) > (ji4) then (some true) else (if 0 ≤ (wrap64 ((wrap64 (a2 - 1)) - (ji4))) then (if (wrap64 ((wrap64 (a2 - 1)) - (ji4))) < (a1.size : Int) then ((impl_upside.f k (bt a1 (ji4))).bind fun t180 => (some ((bt a1 (wrap64 ((wrap64 (a2 - 1)) - (ji4)))) == t180))) else (none)) else (none))))) else (if a0 = 114 then (if (ji4) = 0 then (some (decide ((wrap64 ((((bt a1 (ji4)) - 48) % 256) + (wrap64 (a2 - (a1.size : Int))))) ≤ 9))) else (if 0 ≤ (wrap64 ((ji4) - 1)) then (if (wrap64 ((ji4) - 1)) < (a1.size : Int) then (if (bt a1 (wrap64 ((ji4) - 1))) < (bt a1 (ji4)) then (some (decide ((wrap64 ((((bt a1 (ji4)) - 48) % 256) + (wrap64 (a2 - (a1.size : Int))))) ≤ 9))) else (some false)) else (none)) else (none))) else (if a0 = 102 then (if (ji4) = 0 then (some (decide ((((bt a1 (ji4)) - 48) % 256) ≥ (wrap64 (a2 - (a1.size : Int)))))) else (if 0 ≤ (wrap64 ((ji4) - 1)) then (if (wrap64 ((ji4) - 1)) < (a1.size : Int) then (if (bt a1 (wrap64 ((ji4) - 1))) > (bt a1 (ji4)) then (some (decide ((((bt a1 (ji4)) - 48) % 256) ≥ (wrap64 (a2 - (a1.size : Int)))))) else (some false)) else (none)) else (none))) else (if (ji4) ≤ (a1.size : Int) then ((strings_IndexByte.f (a1.extract 0 ((ji4) : Int).toNat) (bt a1 (ji4))).bind fun t181 => (some (decide (t181 < 0)))) else (none))))))) else (none)) else (none)) = some r := by first | (rw [hji4] at H; exact H) | (simp only [hji4] at H ⊢; exact H)
  have hji4w : (IntKind.i64.wrap ((a1.size : Int) - 1)) = ji4 := (i64_w _).trans hji4
  by_cases c5 : 0 ≤ (ji4)
  · rw [if_pos c5] at H
    have c5b0 : decide (0 ≤ (ji4)) = true := decide_eq_true c5
    clear c5
    by_cases c6 : (ji4) < (a1.size : Int)
    · rw [if_pos c6] at H
      have c6b0 : decide ((ji4) < (a1.size : Int)) = true := decide_eq_true c6
      clear c6
      by_cases c8 : a0 = 97
      · rw [if_pos c8] at H
        have c8b0 : (a0 == 97) = true := beq_iff_eq.mpr c8
        have c8b1 : (a0 != 97) = false := bne_eq_false_iff_eq.mpr c8
        clear c8
        by_cases c10 : 0 < (a1.size : Int)
        · rw [if_pos c10] at H
          have c10b0 : decide (0 < (a1.size : Int)) = true := decide_eq_true c10
          have c10b1 : decide (0 < a1.size) = true := decide_eq_true (by omega)
          clear c10
          obtain rfl := Option.some.inj H
          have p7 : 0 ≤ ((ji4) : Int) := of_decide_eq_true (by first | (with_reducible assumption) | assumption)
          have q7 : (ji4) < (a1.size : Int) := of_decide_eq_true (by first | (with_reducible assumption) | assumption)
          have hx7 := bt_at a1 (ji4)
          replace p7 := eq_true p7
          replace q7 := eq_true q7
          have p9 : 0 ≤ ((ji4) : Int) := of_decide_eq_true (by first | (with_reducible assumption) | assumption)
          have q9 : (ji4) < (a1.size : Int) := of_decide_eq_true (by first | (with_reducible assumption) | assumption)
          have hx9 := bt_at a1 (ji4)
          replace p9 := eq_true p9
          replace q9 := eq_true q9
          have p11 : 0 ≤ (0 : Int) := (by omega)
          have q11 : 0 < a1.size := (by have : (0 : Int) < (a1.size : Int) := of_decide_eq_true (by first | (with_reducible assumption) | assumption); omega)
          have hx11 : ∀ h : 0 < a1.size, ((a1[0]'h).toNat : Int) = bt a1 0 := bt_at a1 0
          clear p11
          have qi11 : (0 < (a1.size : Int)) = True := eq_true (of_decide_eq_true (by first | (with_reducible assumption) | assumption))
          replace q11 := eq_true q11
          go_enter Tryd.func30, Tryd.ntmps30
          go_wp2
          repeat (go_quiet (fail); try go_wp2)
          go_ret
          exact ⟨by first | rfl | (simp; done) | (simp only [← hji4] <;> (first | rfl | simp)) | (simp [*]; done), by repeat (first | exact Drawn0.refl _ | apply Drawn0.step)⟩
        · rw [if_neg c10] at H
          exact absurd H (by simp)
      · rw [if_neg c8] at H
        have c8b0 : (a0 == 97) = false := beq_eq_false_iff_ne.mpr c8
        have c8b1 : (a0 != 97) = true := bne_iff_ne.mpr c8
        by_cases c12 : a0 = 109
        · rw [if_pos c12] at H
          have c12b0 : (a0 == 109) = true := beq_iff_eq.mpr c12
          have c12b1 : (a0 != 109) = false := bne_eq_false_iff_eq.mpr c12
          clear c12
          by_cases c13 : (wrap64 ((wrap64 (a2 - 1)) - (ji4))) > (ji4)
          · rw [if_pos c13] at H
            have c13b0 : decide ((ji4) < (wrap64 ((wrap64 (a2 - 1)) - (ji4)))) = true := decide_eq_true c13
            clear c13
            obtain rfl := Option.some.inj H
            have p7 : 0 ≤ ((ji4) : Int) := of_decide_eq_true (by first | (with_reducible assumption) | assumption)
            have q7 : (ji4) < (a1.size : Int) := of_decide_eq_true (by first | (with_reducible assumption) | assumption)
            have hx7 := bt_at a1 (ji4)
            replace p7 := eq_true p7
            replace q7 := eq_true q7
            go_enter Tryd.func30, Tryd.ntmps30
            go_wp2
            repeat (go_quiet (fail); try go_wp2)
            go_ret
            exact ⟨by first | rfl | (simp; done) | (simp only [← hji4] <;> (first | rfl | simp)) | (simp [*]; done), by repeat (first | exact Drawn0.refl _ | apply Drawn0.step)⟩
          · rw [if_neg c13] at H
            have c13b0 : decide ((ji4) < (wrap64 ((wrap64 (a2 - 1)) - (ji4)))) = false := decide_eq_false c13
            clear c13
            obtain ⟨ji14, hji14⟩ : ∃ j_ : Int, (wrap64 ((wrap64 (a2 - 1)) - (ji4))) = j_ := ⟨_, rfl⟩
            replace H : (if 0 ≤ (ji14) then (if (ji14) < (a1.size : Int) then (some ((bt a1 (ji14)) == (bt a1 (ji4)))) else (none)) else (none)) = some r := by first | (rw [hji14] at H; exact H) | (simp only [hji14] at H ⊢; exact H)
            (try rw [hji14] at c13b0)
            have hji14w : (IntKind.i64.wrap ((wrap64 (a2 - 1)) - (ji4))) = ji14 := (i64_w _).trans hji14
            by_cases c15 : 0 ≤ (ji14)
            · rw [if_pos c15] at H
              have c15b0 : decide (0 ≤ (ji14)) = true := decide_eq_true c15
              clear c15
              by_cases c16 : (ji14) < (a1.size : Int)
              · rw [if_pos c16] at H
                have c16b0 : decide ((ji14) < (a1.size : Int)) = true := decide_eq_true c16
                clear c16
                obtain rfl := Option.some.inj H
                have p7 : 0 ≤ ((ji4) : Int) := of_decide_eq_true (by first | (with_reducible assumption) | assumption)
                have q7 : (ji4) < (a1.size : Int) := of_decide_eq_true (by first | (with_reducible assumption) | assumption)
                have hx7 := bt_at a1 (ji4)
                replace p7 := eq_true p7
                replace q7 := eq_true q7
                have p17 : 0 ≤ ((ji14) : Int) := of_decide_eq_true (by first | (with_reducible assumption) | assumption)
                have q17 : (ji14) < (a1.size : Int) := of_decide_eq_true (by first | (with_reducible assumption) | assumption)
                have hx17 := bt_at a1 (ji14)
                replace p17 := eq_true p17
                replace q17 := eq_true q17
                have p18 : 0 ≤ ((ji4) : Int) := of_decide_eq_true (by first | (with_reducible assumption) | assumption)
                have q18 : (ji4) < (a1.size : Int) := of_decide_eq_true (by first | (with_reducible assumption) | assumption)
                have hx18 := bt_at a1 (ji4)
                replace p18 := eq_true p18
                replace q18 := eq_true q18
                go_enter Tryd.func30, Tryd.ntmps30
                go_wp2
                repeat (go_quiet (fail); try go_wp2)
                go_ret
                exact ⟨by first | rfl | (simp; done) | (simp only [← hji4, ← hji14] <;> (first | rfl | simp)) | (simp [*]; done), by repeat (first | exact Drawn0.refl _ | apply Drawn0.step)⟩
              · rw [if_neg c16] at H
                exact absurd H (by simp)
            · rw [if_neg c15] at H
              exact absurd H (by simp)
        · rw [if_neg c12] at H
          have c12b0 : (a0 == 109) = false := beq_eq_false_iff_ne.mpr c12
          have c12b1 : (a0 != 109) = true := bne_iff_ne.mpr c12
          by_cases c19 : a0 = 117
          · rw [if_pos c19] at H
            have c19b0 : (a0 == 117) = true := beq_iff_eq.mpr c19
            have c19b1 : (a0 != 117) = false := bne_eq_false_iff_eq.mpr c19
            clear c19
            replace H := Option.bind_eq_some_iff.mp H
            obtain ⟨t179, A210, H⟩ := H
            replace H : (if t179 = 0 then (some false) else (if (wrap64 ((wrap64 (a2 - 1)) - (ji4))) > (ji4) then (some true) else (if 0 ≤ (wrap64 ((wrap64 (a2 - 1)) - (ji4))) then (if (wrap64 ((wrap64 (a2 - 1)) - (ji4))) < (a1.size : Int) then ((impl_upside.f k (bt a1 (ji4))).bind fun t180 => (some ((bt a1 (wrap64 ((wrap64 (a2 - 1)) - (ji4)))) == t180))) else (none)) else (none)))) = some r := H
            have A21 := Aside0.mk A210
            clear A210
            by_cases c22 : t179 = 0
            · rw [if_pos c22] at H
              have c22b0 : (t179 == 0) = true := beq_iff_eq.mpr c22
              have c22b1 : (t179 != 0) = false := bne_eq_false_iff_eq.mpr c22
              clear c22
              obtain rfl := Option.some.inj H
              have p7 : 0 ≤ ((ji4) : Int) := of_decide_eq_true (by first | (with_reducible assumption) | assumption)
              have q7 : (ji4) < (a1.size : Int) := of_decide_eq_true (by first | (with_reducible assumption) | assumption)
              have hx7 := bt_at a1 (ji4)
              replace p7 := eq_true p7
              replace q7 := eq_true q7
              have p20 : 0 ≤ ((ji4) : Int) := of_decide_eq_true (by first | (with_reducible assumption) | assumption)
              have q20 : (ji4) < (a1.size : Int) := of_decide_eq_true (by first | (with_reducible assumption) | assumption)
              have hx20 := bt_at a1 (ji4)
              replace p20 := eq_true p20
              replace q20 := eq_true q20
              go_enter Tryd.func30, Tryd.ntmps30
              go_wp2_with (first | (go_at_call 48; (with_reducible refine (impl_upside.calls k (bt a1 (ji4)) t179 _ A21.out).mono ?_); rintro e w' ⟨rfl, ⟨nd, rfl⟩⟩; (try first | exact ⟨rfl, _, World.drewN_drewN _ _ _⟩ | exact ⟨rfl, _, Eq.trans (World.drewN_drewN _ _ _) (congrArg (World.drewN _) (Nat.add_assoc _ _ _))⟩)))
              repeat (go_quiet (first | (go_at_call 48; (with_reducible refine (impl_upside.calls k (bt a1 (ji4)) t179 _ A21.out).mono ?_); rintro e w' ⟨rfl, ⟨nd, rfl⟩⟩; (try first | exact ⟨rfl, _, World.drewN_drewN _ _ _⟩ | exact ⟨rfl, _, Eq.trans (World.drewN_drewN _ _ _) (congrArg (World.drewN _) (Nat.add_assoc _ _ _))⟩))); try go_wp2_with (first | (go_at_call 48; (with_reducible refine (impl_upside.calls k (bt a1 (ji4)) t179 _ A21.out).mono ?_); rintro e w' ⟨rfl, ⟨nd, rfl⟩⟩; (try first | exact ⟨rfl, _, World.drewN_drewN _ _ _⟩ | exact ⟨rfl, _, Eq.trans (World.drewN_drewN _ _ _) (congrArg (World.drewN _) (Nat.add_assoc _ _ _))⟩))))
              go_ret
              exact ⟨by first | rfl | (simp; done) | (simp only [← hji4] <;> (first | rfl | simp)) | (simp [*]; done), by repeat (first | exact Drawn0.refl _ | apply Drawn0.step)⟩
            · rw [if_neg c22] at H
              have c22b0 : (t179 == 0) = false := beq_eq_false_iff_ne.mpr c22
              have c22b1 : (t179 != 0) = true := bne_iff_ne.mpr c22
              by_cases c23 : (wrap64 ((wrap64 (a2 - 1)) - (ji4))) > (ji4)
              · rw [if_pos c23] at H
                have c23b0 : decide ((ji4) < (wrap64 ((wrap64 (a2 - 1)) - (ji4)))) = true := decide_eq_true c23
                clear c23
                obtain rfl := Option.some.inj H
                have p7 : 0 ≤ ((ji4) : Int) := of_decide_eq_true (by first | (with_reducible assumption) | assumption)
                have q7 : (ji4) < (a1.size : Int) := of_decide_eq_true (by first | (with_reducible assumption) | assumption)
                have hx7 := bt_at a1 (ji4)
                replace p7 := eq_true p7
                replace q7 := eq_true q7
                have p20 : 0 ≤ ((ji4) : Int) := of_decide_eq_true (by first | (with_reducible assumption) | assumption)
                have q20 : (ji4) < (a1.size : Int) := of_decide_eq_true (by first | (with_reducible assumption) | assumption)
                have hx20 := bt_at a1 (ji4)
                replace p20 := eq_true p20
                replace q20 := eq_true q20
                go_enter Tryd.func30, Tryd.ntmps30
                go_wp2_with (first | (go_at_call 48; (with_reducible refine (impl_upside.calls k (bt a1 (ji4)) t179 _ A21.out).mono ?_); rintro e w' ⟨rfl, ⟨nd, rfl⟩⟩; (try first | exact ⟨rfl, _, World.drewN_drewN _ _ _⟩ | exact ⟨rfl, _, Eq.trans (World.drewN_drewN _ _ _) (congrArg (World.drewN _) (Nat.add_assoc _ _ _))⟩)))
                repeat (go_quiet (first | (go_at_call 48; (with_reducible refine (impl_upside.calls k (bt a1 (ji4)) t179 _ A21.out).mono ?_); rintro e w' ⟨rfl, ⟨nd, rfl⟩⟩; (try first | exact ⟨rfl, _, World.drewN_drewN _ _ _⟩ | exact ⟨rfl, _, Eq.trans (World.drewN_drewN _ _ _) (congrArg (World.drewN _) (Nat.add_assoc _ _ _))⟩))); try go_wp2_with (first | (go_at_call 48; (with_reducible refine (impl_upside.calls k (bt a1 (ji4)) t179 _ A21.out).mono ?_); rintro e w' ⟨rfl, ⟨nd, rfl⟩⟩; (try first | exact ⟨rfl, _, World.drewN_drewN _ _ _⟩ | exact ⟨rfl, _, Eq.trans (World.drewN_drewN _ _ _) (congrArg (World.drewN _) (Nat.add_assoc _ _ _))⟩))))
                go_ret
                exact ⟨by first | rfl | (simp; done) | (simp only [← hji4] <;> (first | rfl | simp)) | (simp [*]; done), by repeat (first | exact Drawn0.refl _ | apply Drawn0.step)⟩
              · rw [if_neg c23] at H
                have c23b0 : decide ((ji4) < (wrap64 ((wrap64 (a2 - 1)) - (ji4)))) = false := decide_eq_false c23
                clear c23
                obtain ⟨ji24, hji24⟩ : ∃ j_ : Int, (wrap64 ((wrap64 (a2 - 1)) - (ji4))) = j_ := ⟨_, rfl⟩
                replace H : (if 0 ≤ (ji24) then (if (ji24) < (a1.size : Int) then ((impl_upside.f k (bt a1 (ji4))).bind fun t180 => (some ((bt a1 (ji24)) == t180))) else (none)) else (none)) = some r := by first | (rw [hji24] at H; exact H) | (simp only [hji24] at H ⊢; exact H)
                (try rw [hji24] at c23b0)
                (try rw [hji24] at A21)
                have hji24w : (IntKind.i64.wrap ((wrap64 (a2 - 1)) - (ji4))) = ji24 := (i64_w _).trans hji24
                by_cases c25 : 0 ≤ (ji24)
                · rw [if_pos c25] at H
                  have c25b0 : decide (0 ≤ (ji24)) = true := decide_eq_true c25
                  clear c25
                  by_cases c26 : (ji24) < (a1.size : Int)
                  · rw [if_pos c26] at H
                    have c26b0 : decide ((ji24) < (a1.size : Int)) = true := decide_eq_true c26
                    clear c26
                    replace H := Option.bind_eq_some_iff.mp H
                    obtain ⟨t180, A290, H⟩ := H
                    replace H : (some ((bt a1 (ji24)) == t180)) = some r := H
                    have A29 := Aside0.mk A290
                    clear A290
                    obtain rfl := Option.some.inj H
                    have p7 : 0 ≤ ((ji4) : Int) := of_decide_eq_true (by first | (with_reducible assumption) | assumption)
                    have q7 : (ji4) < (a1.size : Int) := of_decide_eq_true (by first | (with_reducible assumption) | assumption)
                    have hx7 := bt_at a1 (ji4)
                    replace p7 := eq_true p7
                    replace q7 := eq_true q7
                    have p20 : 0 ≤ ((ji4) : Int) := of_decide_eq_true (by first | (with_reducible assumption) | assumption)
                    have q20 : (ji4) < (a1.size : Int) := of_decide_eq_true (by first | (with_reducible assumption) | assumption)
                    have hx20 := bt_at a1 (ji4)
                    replace p20 := eq_true p20
                    replace q20 := eq_true q20
                    obtain rfl : t180 = t179 := Option.some.inj (A29.out.symm.trans A21.out)
                    have hx27 := bt_at a1 (ji24)
                    have p27 : 0 ≤ ((ji24) : Int) := of_decide_eq_true (by first | (with_reducible assumption) | assumption)
                    have q27 : (ji24) < (a1.size : Int) := of_decide_eq_true (by first | (with_reducible assumption) | assumption)
                    replace p27 := eq_true p27
                    replace q27 := eq_true q27
                    go_enter Tryd.func30, Tryd.ntmps30
                    go_wp2_with (fail)
                    go_quiet ((go_at_call 48; (with_reducible refine (impl_upside.calls k (bt a1 (ji4)) t180 _ A21.out).mono ?_); rintro e w' ⟨rfl, ⟨nd, rfl⟩⟩; first | exact ⟨rfl, _, World.drewN_drewN _ _ _⟩ | exact ⟨rfl, _, Eq.trans (World.drewN_drewN _ _ _) (congrArg (World.drewN _) (Nat.add_assoc _ _ _))⟩))
                    go_wp2
                    go_ret
                    exact ⟨by first | rfl | (simp; done) | (simp only [← hji4, ← hji24] <;> (first | rfl | simp)) | (simp [*]; done), by repeat (first | exact Drawn0.refl _ | apply Drawn0.step)⟩
                  · rw [if_neg c26] at H
                    exact absurd H (by simp)
                · rw [if_neg c25] at H
                  exact absurd H (by simp)
          · rw [if_neg c19] at H
            have c19b0 : (a0 == 117) = false := beq_eq_false_iff_ne.mpr c19
            have c19b1 : (a0 != 117) = true := bne_iff_ne.mpr c19
            by_cases c30 : a0 = 114
            · rw [if_pos c30] at H
              have c30b0 : (a0 == 114) = true := beq_iff_eq.mpr c30
              have c30b1 : (a0 != 114) = false := bne_eq_false_iff_eq.mpr c30
              clear c30
              by_cases c31 : (ji4) = 0
              · rw [if_pos c31] at H
                have c31b0 : ((ji4) == 0) = true := beq_iff_eq.mpr c31
                have c31b1 : ((ji4) != 0) = false := bne_eq_false_iff_eq.mpr c31
                clear c31
                obtain rfl := Option.some.inj H
                have p7 : 0 ≤ ((ji4) : Int) := of_decide_eq_true (by first | (with_reducible assumption) | assumption)
                have q7 : (ji4) < (a1.size : Int) := of_decide_eq_true (by first | (with_reducible assumption) | assumption)
                have hx7 := bt_at a1 (ji4)
                replace p7 := eq_true p7
                replace q7 := eq_true q7
                go_enter Tryd.func30, Tryd.ntmps30
                go_wp2
                repeat (go_quiet (fail); try go_wp2)
                go_ret
                exact ⟨by first | rfl | (simp; done) | (simp only [← hji4] <;> (first | rfl | simp)) | (simp [*]; done), by repeat (first | exact Drawn0.refl _ | apply Drawn0.step)⟩
              · rw [if_neg c31] at H
                have c31b0 : ((ji4) == 0) = false := beq_eq_false_iff_ne.mpr c31
                have c31b1 : ((ji4) != 0) = true := bne_iff_ne.mpr c31
                obtain ⟨ji32, hji32⟩ : ∃ j_ : Int, (wrap64 ((ji4) - 1)) = j_ := ⟨_, rfl⟩
                replace H : (if 0 ≤ (ji32) then (if (ji32) < (a1.size : Int) then (if (bt a1 (ji32)) < (bt a1 (ji4)) then (some (decide ((wrap64 ((((bt a1 (ji4)) - 48) % 256) + (wrap64 (a2 - (a1.size : Int))))) ≤ 9))) else (some false)) else (none)) else (none)) = some r := by first | (rw [hji32] at H; exact H) | (simp only [hji32] at H ⊢; exact H)
                have hji32w : (IntKind.i64.wrap ((ji4) - 1)) = ji32 := (i64_w _).trans hji32
                by_cases c33 : 0 ≤ (ji32)
                · rw [if_pos c33] at H
                  have c33b0 : decide (0 ≤ (ji32)) = true := decide_eq_true c33
                  clear c33
                  by_cases c34 : (ji32) < (a1.size : Int)
                  · rw [if_pos c34] at H
                    have c34b0 : decide ((ji32) < (a1.size : Int)) = true := decide_eq_true c34
                    clear c34
                    by_cases c37 : (bt a1 (ji32)) < (bt a1 (ji4))
                    · rw [if_pos c37] at H
                      have c37b0 : decide ((bt a1 (ji32)) < (bt a1 (ji4))) = true := decide_eq_true c37
                      clear c37
                      obtain rfl := Option.some.inj H
                      have p7 : 0 ≤ ((ji4) : Int) := of_decide_eq_true (by first | (with_reducible assumption) | assumption)
                      have q7 : (ji4) < (a1.size : Int) := of_decide_eq_true (by first | (with_reducible assumption) | assumption)
                      have hx7 := bt_at a1 (ji4)
                      replace p7 := eq_true p7
                      replace q7 := eq_true q7
                      have p35 : 0 ≤ ((ji32) : Int) := of_decide_eq_true (by first | (with_reducible assumption) | assumption)
                      have q35 : (ji32) < (a1.size : Int) := of_decide_eq_true (by first | (with_reducible assumption) | assumption)
                      have hx35 := bt_at a1 (ji32)
                      replace p35 := eq_true p35
                      replace q35 := eq_true q35
                      have p36 : 0 ≤ ((ji4) : Int) := of_decide_eq_true (by first | (with_reducible assumption) | assumption)
                      have q36 : (ji4) < (a1.size : Int) := of_decide_eq_true (by first | (with_reducible assumption) | assumption)
                      have hx36 := bt_at a1 (ji4)
                      replace p36 := eq_true p36
                      replace q36 := eq_true q36
                      go_enter Tryd.func30, Tryd.ntmps30
                      go_wp2
                      repeat (go_quiet (fail); try go_wp2)
                      go_ret
                      exact ⟨by first | rfl | (simp; done) | (simp only [← hji4, ← hji32] <;> (first | rfl | simp)) | (simp [*]; done), by repeat (first | exact Drawn0.refl _ | apply Drawn0.step)⟩
                    · rw [if_neg c37] at H
                      have c37b0 : decide ((bt a1 (ji32)) < (bt a1 (ji4))) = false := decide_eq_false c37
                      clear c37
                      obtain rfl := Option.some.inj H
                      have p7 : 0 ≤ ((ji4) : Int) := of_decide_eq_true (by first | (with_reducible assumption) | assumption)
                      have q7 : (ji4) < (a1.size : Int) := of_decide_eq_true (by first | (with_reducible assumption) | assumption)
                      have hx7 := bt_at a1 (ji4)
                      replace p7 := eq_true p7
                      replace q7 := eq_true q7
                      have p35 : 0 ≤ ((ji32) : Int) := of_decide_eq_true (by first | (with_reducible assumption) | assumption)
                      have q35 : (ji32) < (a1.size : Int) := of_decide_eq_true (by first | (with_reducible assumption) | assumption)
                      have hx35 := bt_at a1 (ji32)
                      replace p35 := eq_true p35
                      replace q35 := eq_true q35
                      have p36 : 0 ≤ ((ji4) : Int) := of_decide_eq_true (by first | (with_reducible assumption) | assumption)
                      have q36 : (ji4) < (a1.size : Int) := of_decide_eq_true (by first | (with_reducible assumption) | assumption)
                      have hx36 := bt_at a1 (ji4)
                      replace p36 := eq_true p36
                      replace q36 := eq_true q36
                      go_enter Tryd.func30, Tryd.ntmps30
                      go_wp2
                      repeat (go_quiet (fail); try go_wp2)
                      go_ret
                      exact ⟨by first | rfl | (simp; done) | (simp only [← hji4, ← hji32] <;> (first | rfl | simp)) | (simp [*]; done), by repeat (first | exact Drawn0.refl _ | apply Drawn0.step)⟩
                  · rw [if_neg c34] at H
                    exact absurd H (by simp)
                · rw [if_neg c33] at H
                  exact absurd H (by simp)
            · rw [if_neg c30] at H
              have c30b0 : (a0 == 114) = false := beq_eq_false_iff_ne.mpr c30
              have c30b1 : (a0 != 114) = true := bne_iff_ne.mpr c30
              by_cases c38 : a0 = 102
              · rw [if_pos c38] at H
                have c38b0 : (a0 == 102) = true := beq_iff_eq.mpr c38
                have c38b1 : (a0 != 102) = false := bne_eq_false_iff_eq.mpr c38
                clear c38
                by_cases c39 : (ji4) = 0
                · rw [if_pos c39] at H
                  have c39b0 : ((ji4) == 0) = true := beq_iff_eq.mpr c39
                  have c39b1 : ((ji4) != 0) = false := bne_eq_false_iff_eq.mpr c39
                  clear c39
                  obtain rfl := Option.some.inj H
                  have p7 : 0 ≤ ((ji4) : Int) := of_decide_eq_true (by first | (with_reducible assumption) | assumption)
                  have q7 : (ji4) < (a1.size : Int) := of_decide_eq_true (by first | (with_reducible assumption) | assumption)
                  have hx7 := bt_at a1 (ji4)
                  replace p7 := eq_true p7
                  replace q7 := eq_true q7
                  go_enter Tryd.func30, Tryd.ntmps30
                  go_wp2
                  repeat (go_quiet (fail); try go_wp2)
                  go_ret
                  exact ⟨by first | rfl | (simp; done) | (simp only [← hji4] <;> (first | rfl | simp)) | (simp [*]; done), by repeat (first | exact Drawn0.refl _ | apply Drawn0.step)⟩
                · rw [if_neg c39] at H
                  have c39b0 : ((ji4) == 0) = false := beq_eq_false_iff_ne.mpr c39
                  have c39b1 : ((ji4) != 0) = true := bne_iff_ne.mpr c39
                  obtain ⟨ji40, hji40⟩ : ∃ j_ : Int, (wrap64 ((ji4) - 1)) = j_ := ⟨_, rfl⟩
                  replace H : (if 0 ≤ (ji40) then (if (ji40) < (a1.size : Int) then (if (bt a1 (ji40)) > (bt a1 (ji4)) then (some (decide ((((bt a1 (ji4)) - 48) % 256) ≥ (wrap64 (a2 - (a1.size : Int)))))) else (some false)) else (none)) else (none)) = some r := by first | (rw [hji40] at H; exact H) | (simp only [hji40] at H ⊢; exact H)
                  have hji40w : (IntKind.i64.wrap ((ji4) - 1)) = ji40 := (i64_w _).trans hji40
                  by_cases c41 : 0 ≤ (ji40)
                  · rw [if_pos c41] at H
                    have c41b0 : decide (0 ≤ (ji40)) = true := decide_eq_true c41
                    clear c41
                    by_cases c42 : (ji40) < (a1.size : Int)
                    · rw [if_pos c42] at H
                      have c42b0 : decide ((ji40) < (a1.size : Int)) = true := decide_eq_true c42
                      clear c42
                      by_cases c45 : (bt a1 (ji40)) > (bt a1 (ji4))
                      · rw [if_pos c45] at H
                        have c45b0 : decide ((bt a1 (ji4)) < (bt a1 (ji40))) = true := decide_eq_true c45
                        clear c45
                        obtain rfl := Option.some.inj H
                        have p7 : 0 ≤ ((ji4) : Int) := of_decide_eq_true (by first | (with_reducible assumption) | assumption)
                        have q7 : (ji4) < (a1.size : Int) := of_decide_eq_true (by first | (with_reducible assumption) | assumption)
                        have hx7 := bt_at a1 (ji4)
                        replace p7 := eq_true p7
                        replace q7 := eq_true q7
                        have p43 : 0 ≤ ((ji40) : Int) := of_decide_eq_true (by first | (with_reducible assumption) | assumption)
                        have q43 : (ji40) < (a1.size : Int) := of_decide_eq_true (by first | (with_reducible assumption) | assumption)
                        have hx43 := bt_at a1 (ji40)
                        replace p43 := eq_true p43
                        replace q43 := eq_true q43
                        have p44 : 0 ≤ ((ji4) : Int) := of_decide_eq_true (by first | (with_reducible assumption) | assumption)
                        have q44 : (ji4) < (a1.size : Int) := of_decide_eq_true (by first | (with_reducible assumption) | assumption)
                        have hx44 := bt_at a1 (ji4)
                        replace p44 := eq_true p44
                        replace q44 := eq_true q44
                        go_enter Tryd.func30, Tryd.ntmps30
                        go_wp2
                        repeat (go_quiet (fail); try go_wp2)
                        go_ret
                        exact ⟨by first | rfl | (simp; done) | (simp only [← hji4, ← hji40] <;> (first | rfl | simp)) | (simp [*]; done), by repeat (first | exact Drawn0.refl _ | apply Drawn0.step)⟩
                      · rw [if_neg c45] at H
                        have c45b0 : decide ((bt a1 (ji4)) < (bt a1 (ji40))) = false := decide_eq_false c45
                        clear c45
                        obtain rfl := Option.some.inj H
                        have p7 : 0 ≤ ((ji4) : Int) := of_decide_eq_true (by first | (with_reducible assumption) | assumption)
                        have q7 : (ji4) < (a1.size : Int) := of_decide_eq_true (by first | (with_reducible assumption) | assumption)
                        have hx7 := bt_at a1 (ji4)
                        replace p7 := eq_true p7
                        replace q7 := eq_true q7
                        have p43 : 0 ≤ ((ji40) : Int) := of_decide_eq_true (by first | (with_reducible assumption) | assumption)
                        have q43 : (ji40) < (a1.size : Int) := of_decide_eq_true (by first | (with_reducible assumption) | assumption)
                        have hx43 := bt_at a1 (ji40)
                        replace p43 := eq_true p43
                        replace q43 := eq_true q43
                        have p44 : 0 ≤ ((ji4) : Int) := of_decide_eq_true (by first | (with_reducible assumption) | assumption)
                        have q44 : (ji4) < (a1.size : Int) := of_decide_eq_true (by first | (with_reducible assumption) | assumption)
                        have hx44 := bt_at a1 (ji4)
                        replace p44 := eq_true p44
                        replace q44 := eq_true q44
                        go_enter Tryd.func30, Tryd.ntmps30
                        go_wp2
                        repeat (go_quiet (fail); try go_wp2)
                        go_ret
                        exact ⟨by first | rfl | (simp; done) | (simp only [← hji4, ← hji40] <;> (first | rfl | simp)) | (simp [*]; done), by repeat (first | exact Drawn0.refl _ | apply Drawn0.step)⟩
                    · rw [if_neg c42] at H
                      exact absurd H (by simp)
                  · rw [if_neg c41] at H
                    exact absurd H (by simp)
              · rw [if_neg c38] at H
                have c38b0 : (a0 == 102) = false := beq_eq_false_iff_ne.mpr c38
                have c38b1 : (a0 != 102) = true := bne_iff_ne.mpr c38
                have c46b0 := eq_true (of_decide_eq_true (by first | (with_reducible assumption) | assumption) : 0 ≤ (ji4))
                by_cases c47 : (ji4) ≤ (a1.size : Int)
                · rw [if_pos c47] at H
                  have c47b0 := eq_true c47
                  have c47b1 : decide ((ji4) ≤ (a1.size : Int)) = true := decide_eq_true c47
                  clear c47
                  replace H := Option.bind_eq_some_iff.mp H
                  obtain ⟨t181, A490, H⟩ := H
                  replace H : (some (decide (t181 < 0))) = some r := H
                  have A49 := Aside0.mk A490
                  clear A490
                  obtain rfl := Option.some.inj H
                  have p7 : 0 ≤ ((ji4) : Int) := of_decide_eq_true (by first | (with_reducible assumption) | assumption)
                  have q7 : (ji4) < (a1.size : Int) := of_decide_eq_true (by first | (with_reducible assumption) | assumption)
                  have hx7 := bt_at a1 (ji4)
                  replace p7 := eq_true p7
                  replace q7 := eq_true q7
                  have p48 : 0 ≤ ((ji4) : Int) := of_decide_eq_true (by first | (with_reducible assumption) | assumption)
                  have q48 : (ji4) < (a1.size : Int) := of_decide_eq_true (by first | (with_reducible assumption) | assumption)
                  have hx48 := bt_at a1 (ji4)
                  replace p48 := eq_true p48
                  replace q48 := eq_true q48
                  go_enter Tryd.func30, Tryd.ntmps30
                  go_wp2_with (first | (go_at_call 49; (with_reducible refine (strings_IndexByte.calls (a1.extract 0 ((ji4) : Int).toNat) (bt a1 (ji4)) t181 _ A49.out).mono ?_); rintro e w' ⟨rfl, ⟨nd, rfl⟩⟩; (try first | exact ⟨rfl, _, World.drewN_drewN _ _ _⟩ | exact ⟨rfl, _, Eq.trans (World.drewN_drewN _ _ _) (congrArg (World.drewN _) (Nat.add_assoc _ _ _))⟩)))
                  repeat (go_quiet (first | (go_at_call 49; (with_reducible refine (strings_IndexByte.calls (a1.extract 0 ((ji4) : Int).toNat) (bt a1 (ji4)) t181 _ A49.out).mono ?_); rintro e w' ⟨rfl, ⟨nd, rfl⟩⟩; (try first | exact ⟨rfl, _, World.drewN_drewN _ _ _⟩ | exact ⟨rfl, _, Eq.trans (World.drewN_drewN _ _ _) (congrArg (World.drewN _) (Nat.add_assoc _ _ _))⟩))); try go_wp2_with (first | (go_at_call 49; (with_reducible refine (strings_IndexByte.calls (a1.extract 0 ((ji4) : Int).toNat) (bt a1 (ji4)) t181 _ A49.out).mono ?_); rintro e w' ⟨rfl, ⟨nd, rfl⟩⟩; (try first | exact ⟨rfl, _, World.drewN_drewN _ _ _⟩ | exact ⟨rfl, _, Eq.trans (World.drewN_drewN _ _ _) (congrArg (World.drewN _) (Nat.add_assoc _ _ _))⟩))))
                  go_ret
                  exact ⟨by first | rfl | (simp; done) | (simp only [← hji4] <;> (first | rfl | simp)) | (simp [*]; done), by repeat (first | exact Drawn0.refl _ | apply Drawn0.step)⟩
                · rw [if_neg c47] at H
                  exact absurd H (by simp)
    · rw [if_neg c6] at H
      exact absurd H (by simp)
  · rw [if_neg c5] at H
    exact absurd H (by simp)

end Go.Proofs.YtpdcjkiejglaiaaDoor.Q

/-
  'miDigits' (the reference's count of different digits): over a text of bytes below 128 it returns the number of places whose byte stands nowhere before.
-/
namespace Go.Proofs.YtpdcjkiejglaiaaDoor.Q
open Go.RowKit Go.Proofs.YtpdcjkiejglaiaaDoorW.PrintWords Go.Proofs.YtpdcjkiejglaiaaDoorW.PrintLast Go.Proofs.YtpdcjkiejglaiaaDoorW.PrintMore

/-- does the byte at place i stand nowhere among the first k? -/
def newTo (s : ByteArray) (i : Nat) : Nat → Bool
  | 0 => true
  | k + 1 => newTo s i k && (bt s k != bt s i)
def cntNew (s : ByteArray) : Nat → Int
  | 0 => 0
  | i + 1 => cntNew s i + (if newTo s i i = true then 1 else 0)
def low (s : ByteArray) : Prop := ∀ i (h : i < s.size), (s[i]'h).toNat < 128
theorem cntNew_le (s : ByteArray) : ∀ i : Nat, 0 ≤ cntNew s i ∧ cntNew s i ≤ i
  | 0 => ⟨by simp [cntNew], by simp [cntNew]⟩
  | i + 1 => by have := cntNew_le s i; simp only [cntNew]; split <;> omega
theorem cntNew_yes (s : ByteArray) (i : Nat) (h : newTo s i i = true) : cntNew s (i + 1) = cntNew s i + 1 := by simp [cntNew, h]
theorem cntNew_no (s : ByteArray) (i : Nat) (h : newTo s i i = false) : cntNew s (i + 1) = cntNew s i := by simp [cntNew, h]
theorem iter_below (w : World) (s : ByteArray) (p : Nat) : Below w.heap.size w (w.iter s p) := below_alloc (Below.refl _ _) _
theorem bt_nat (s : ByteArray) (i : Nat) (h : i < s.size) : ((s[i]'h).toNat : Int) = bt s i := bt_at s i h

set_option maxHeartbeats 1000000 in
theorem miDigits_any (s : ByteArray) (w : World) (hs : s.size ≤ 9223372036854775807) (hl : low s) :
    Calls Tryd.prog 69 #[.string s] w fun e w' => e = .returned (.int .i64 (cntNew s s.size)) ∧ Below w.heap.size w w' := by
  have HL := Aside0.mk hl
  clear hl
  go_enter Tryd.func69, Tryd.ntmps69
  go_wp2
  go_loopg [3] (s.size) (fun g v3 wr => ∃ pos : Nat, v3 = .int .i64 (cntNew s pos) ∧ Aside0 (pos + g = s.size) ∧ Aside0 (wr.heap[w.heap.size]? = some (.stringIter s pos)) ∧ Aside0 (Below w.heap.size w wr))
  case atStart => exact ⟨0, rfl, ⟨by omega⟩, ⟨World.iter_heap _ _ _⟩, ⟨iter_below _ _ _⟩⟩
  case round =>
    obtain ⟨pos, rfl, hg, hit, hb⟩ := hrel
    obtain ⟨go, rfl⟩ : ∃ x, x = gk := ⟨_, rfl⟩
    obtain ⟨wo, rfl⟩ : ∃ x, x = wr := ⟨_, rfl⟩
    by_cases hp : pos < s.size
    · have hnx : ∀ ty, (Instr.next (.pointer (some ⟨w.heap.size, 0, none⟩)) true ty).run Tryd.prog wo = _ := fun ty => Lib.run_next_ascii_at wo w.heap.size s pos ty hit.out hp (HL.out pos hp)
      have hc := cntNew_le s pos
      obtain ⟨w1, hw1⟩ : ∃ w1, w1 = wo.iterAt w.heap.size s (pos + 1) := ⟨_, rfl⟩
      have hit1 : Aside0 (w1.heap[w.heap.size]? = some (.stringIter s (pos + 1))) := ⟨by rw [hw1]; exact Lib.iterAt_heap _ _ _ _ _ hit.out⟩
      have hb1 : Aside0 (Below w.heap.size w w1) := ⟨by rw [hw1]; exact Lib.below_iterAt hb.out (Nat.le_refl _) _ _⟩
      rw [← hw1] at hnx
      clear hw1
      go_wp2
      go_loopg [5, 6] (pos) (fun g v5 v6 w2 => ∃ k : Nat, v5 = .bool (newTo s pos k) ∧ v6 = .int .i64 k ∧ Aside0 (k + g = pos) ∧ ∃ n, w2 = w1.drewN n)
      case atStart => exact ⟨0, rfl, rfl, ⟨by omega⟩, 0, rfl⟩
      case round =>
        obtain ⟨k, rfl, rfl, hk, n, rfl⟩ := hrel
        clear hnx
        have hk' := hk.out
        by_cases hlt : k < pos
        · have hb1 : k < s.size := by omega
          have bk := bt_nat s k hb1
          have bp := bt_nat s pos hp
          cases hn : newTo s pos k with
          | true =>
            clear hk'
            have HN := Aside0.mk hn
            have e1 : newTo s pos (k + 1) = (bt s k != bt s pos) := by simp [newTo, hn]
            have E1 := Aside0.mk e1
            clear hn e1
            go_wp2
            go_quiet (fail)
            go_wp2
            all_goals
              go_roundg (gk - 1)
              case measure => have := hk.out; omega
              case rel =>
                refine ⟨k + 1, ?_, by go_num, ⟨by have := hk.out; omega⟩, _, rfl⟩
                rw [E1.out]
          | false =>
            clear hk'
            have HN := Aside0.mk hn
            have e1 : newTo s pos (k + 1) = false := by simp [newTo, hn]
            have E1 := Aside0.mk e1
            clear hn e1
            go_wp2
            go_quiet (fail)
            go_wp2
            all_goals
              go_roundg (gk - 1)
              case measure => have := hk.out; omega
              case rel =>
                refine ⟨k + 1, ?_, by go_num, ⟨by have := hk.out; omega⟩, _, rfl⟩
                rw [E1.out]
        · obtain rfl : k = pos := by omega
          clear hk'
          cases hn : newTo s k k with
          | true =>
            have HN := Aside0.mk (cntNew_yes s k hn)
            clear hn
            go_wp2
            go_roundg (go - 1)
            case measure => have := hg.out; omega
            case rel => exact ⟨k + 1, by rw [HN.out], ⟨by have := hg.out; omega⟩, ⟨by exact hit1.out⟩, ⟨pw_below_drewN hb1.out _⟩⟩
          | false =>
            have HN := Aside0.mk (cntNew_no s k hn)
            clear hn
            go_wp2
            go_roundg (go - 1)
            case measure => have := hg.out; omega
            case rel => exact ⟨k + 1, by rw [HN.out], ⟨by have := hg.out; omega⟩, ⟨by exact hit1.out⟩, ⟨pw_below_drewN hb1.out _⟩⟩
    · have hnx : ∀ ty, (Instr.next (.pointer (some ⟨w.heap.size, 0, none⟩)) true ty).run Tryd.prog wo = _ := fun ty => Lib.run_next_end_at wo w.heap.size s pos ty hit.out hp
      obtain rfl : pos = s.size := by have := hg.out; omega
      go_wp2
      go_ret
      exact ⟨rfl, hb.out⟩

def lowB (s : ByteArray) : Bool := s.data.toList.all fun c => decide (c.toNat < 128)
theorem low_of (s : ByteArray) (h : lowB s = true) : low s := by
  intro i hi
  unfold lowB at h
  rw [List.all_eq_true] at h
  simpa using h (s[i]'hi) (by
    show s.data[i]'hi ∈ s.data.toList
    exact Array.getElem_mem_toList hi)
def spec_miDigits.f (a0 : ByteArray) : Option Int := if lowB a0 = true then (if a0.size ≤ 9223372036854775807 then some (cntNew a0 a0.size) else none) else none
theorem spec_miDigits.calls (a0 : ByteArray) (r : Int) (w : World) (h : spec_miDigits.f a0 = some r) :
    Calls Tryd.prog 69 #[.string a0] w fun e w' => e = .returned (.int .i64 r) ∧ Below w.heap.size w w' := by
  unfold spec_miDigits.f at h
  by_cases h1 : lowB a0 = true
  · rw [if_pos h1] at h
    by_cases h2 : a0.size ≤ 9223372036854775807
    · rw [if_pos h2] at h
      obtain rfl := Option.some.inj h
      exact miDigits_any a0 w h2 (low_of a0 h1)
    · rw [if_neg h2] at h
      cases h
  · rw [if_neg h1] at h
    cases h

end Go.Proofs.YtpdcjkiejglaiaaDoor.Q

/-
  What 'may' and 'isOf' of the program return, in plain words.
-/
namespace Go.Proofs.YtpdcjkiejglaiaaDoor.Q
open Go.RowKit Go.Proofs.YtpdcjkiejglaiaaDoorW.PrintWords Go.Proofs.YtpdcjkiejglaiaaDoorW.PrintLast Go.Proofs.YtpdcjkiejglaiaaDoorW.PrintMore
set_option linter.unusedVariables false
set_option linter.unusedSimpArgs false

theorem newTo_iff (s : ByteArray) (i : Nat) : ∀ k, newTo s i k = true ↔ ∀ j : Nat, j < k → bt s j ≠ bt s i
  | 0 => by simp [newTo]
  | k + 1 => by
    simp only [newTo, Bool.and_eq_true, newTo_iff s i k, bne_iff_ne]
    constructor
    · rintro ⟨h1, h2⟩ j hj
      by_cases e : j = k
      · rw [e]; exact h2
      · exact h1 j (by omega)
    · intro h
      exact ⟨fun j hj => h j (by omega), h k (by omega)⟩
theorem idx_neg : ∀ (l : List UInt8) (c : UInt8), Lib.indexByte l c < 0 ↔ c ∉ l
  | [], c => by simp [Lib.indexByte]
  | b :: l, c => by
    have ih := idx_neg l c
    have hg := Lib.indexByte_ge l c
    unfold Lib.indexByte
    by_cases hb : b = c
    · subst hb; simp
    · have hb' : (b == c) = false := by simpa using hb
      rw [hb']
      simp only [Bool.false_eq_true, if_false]
      by_cases h1 : Lib.indexByte l c = -1
      · rw [h1]
        simp only [beq_self_eq_true, if_true]
        rw [h1] at ih
        simp only [List.mem_cons, not_or]
        constructor
        · intro _; exact ⟨fun e => hb e.symm, ih.1 (by decide)⟩
        · intro _; decide
      · rw [if_neg (by simpa using h1)]
        simp only [List.mem_cons, not_or]
        constructor
        · intro h; omega
        · rintro ⟨_, h⟩; have := ih.2 h; omega
theorem idx_new (p : ByteArray) (i : Nat) (hi : i < p.size) : decide (Lib.indexByte (p.extract 0 i).data.toList (bt p i).toNat.toUInt8 < 0) = newTo p i i := by
  rw [Bool.eq_iff_iff, decide_eq_true_eq, idx_neg, newTo_iff, Lib.extract_data]
  have hb : ∀ j : Nat, j < p.size → ∃ h : j < p.data.toList.length, ((p.data.toList[j]'h).toNat : Int) = bt p j := by
    intro j hj
    have h' : j < p.data.toList.length := by rw [Array.length_toList]; exact hj
    exact ⟨h', bt_at p (j : Int) hj⟩
  have hc : ((bt p i).toNat.toUInt8.toNat : Int) = bt p i := by
    have := bt_range p i
    simp [Nat.toUInt8]
    omega
  constructor
  · intro h j hj e
    apply h
    obtain ⟨h1, h2⟩ := hb j (by omega)
    have : p.data.toList[j]'h1 = (bt p i).toNat.toUInt8 := toNat_inj (by rw [h2, e, hc])
    rw [← this]
    rw [List.drop_zero, Nat.sub_zero, List.mem_iff_getElem]
    exact ⟨j, by rw [List.length_take]; omega, by simp⟩
  · intro h hm
    rw [List.drop_zero, Nat.sub_zero, List.mem_iff_getElem] at hm
    obtain ⟨j, hj, e⟩ := hm
    rw [List.length_take] at hj
    rw [List.getElem_take] at e
    obtain ⟨h1, h2⟩ := hb j (by omega)
    exact h j (by omega) (by rw [← h2, e, hc])

/-- a digit upside down -/
def up (x : Int) : Int := if x = 48 ∨ x = 49 ∨ x = 56 then x else if x = 54 then 57 else if x = 57 then 54 else 0
theorem upside_ev (x : Int) : Ev (fun k => impl_upside.f k x) (up x) := by
  refine Ev.step (f := fun _ => some (up x)) (fun k => ?_) (Ev.now _)
  unfold impl_upside.f up
  simp only [impl_upside.j0]
  by_cases h1 : x = 48
  · simp [h1]
  · by_cases h2 : x = 49
    · simp [h2]
    · by_cases h3 : x = 56
      · simp [h3]
      · by_cases h4 : x = 54
        · subst h4; decide
        · by_cases h5 : x = 57
          · subst h5; decide
          · simp [h1, h2, h3, h4, h5]

/-- may the digit at place i of a text stand there, in a reading of a kind with n digits? -/
def mayAt (c : Int) (p : ByteArray) (n i : Nat) : Bool :=
  if c = 97 then bt p i == bt p 0
  else if c = 109 then decide (i < n - 1 - i) || (bt p ((n - 1 - i : Nat) : Int) == bt p i)
  else if c = 117 then up (bt p i) != 0 && (decide (i < n - 1 - i) || (bt p ((n - 1 - i : Nat) : Int) == up (bt p i)))
  else if c = 114 then (decide (i = 0) || decide (bt p ((i - 1 : Nat) : Int) < bt p i)) && decide (bt p i - 48 + ((n - 1 - i : Nat) : Int) ≤ 9)
  else if c = 102 then (decide (i = 0) || decide (bt p i < bt p ((i - 1 : Nat) : Int))) && decide (((n - 1 - i : Nat) : Int) ≤ bt p i - 48)
  else newTo p i i

theorem may_ev (c : Int) (p : ByteArray) (n i : Nat) (hi : p.size = i + 1) (hn : i + 1 ≤ n) (hn9 : n ≤ 9) (hd : ∀ j : Nat, j < p.size → 48 ≤ bt p j ∧ bt p j ≤ 57) :
    Ev (fun k => impl_may.f k c p (n : Int)) (mayAt c p n i) := by
  unfold impl_may.f mayAt
  have e1 : wrap64 ((p.size : Int) - 1) = (i : Int) := by rw [wrap_id (by omega) (by omega)]; omega
  have e2 : wrap64 (wrap64 ((n : Int) - 1) - (i : Int)) = ((n - 1 - i : Nat) : Int) := by rw [wrap_id (i := (n : Int) - 1) (by omega) (by omega), wrap_id (by omega) (by omega)]; omega
  have e3 : wrap64 ((n : Int) - (p.size : Int)) = ((n - 1 - i : Nat) : Int) := by rw [wrap_id (by omega) (by omega)]; omega
  have hdi := hd i (by omega)
  have e4 : (bt p i - 48) % 256 = bt p i - 48 := by omega
  simp only [e1, e2, e3, e4]
  refine Ev.pos (by omega) (Ev.pos (by omega) ?_)
  by_cases h1 : c = 97
  · refine Ev.pos h1 ?_
    rw [if_pos h1]
    exact Ev.pos (by omega) (Ev.now _)
  refine Ev.neg h1 ?_
  rw [if_neg h1]
  by_cases h2 : c = 109
  · refine Ev.pos h2 ?_
    rw [if_pos h2]
    by_cases h : i < n - 1 - i
    · exact Ev.pos (by omega) (Ev.eq (Ev.now _) (by simp [h]))
    · exact Ev.neg (by omega) (Ev.pos (by omega) (Ev.pos (by omega) (Ev.eq (Ev.now _) (by simp [h]))))
  refine Ev.neg h2 ?_
  rw [if_neg h2]
  by_cases h3 : c = 117
  · refine Ev.pos h3 (Ev.bind' (upside_ev _) ?_)
    rw [if_pos h3]
    by_cases hu : up (bt p i) = 0
    · exact Ev.pos hu (Ev.eq (Ev.now _) (by simp [hu]))
    · refine Ev.neg hu ?_
      have hu' : (up (bt p i) != 0) = true := by simpa using hu
      rw [hu', Bool.true_and]
      by_cases h : i < n - 1 - i
      · exact Ev.pos (by omega) (Ev.eq (Ev.now _) (by simp [h]))
      · exact Ev.neg (by omega) (Ev.pos (by omega) (Ev.pos (by omega) (Ev.bind' (upside_ev _) (Ev.eq (Ev.now _) (by simp [h])))))
  refine Ev.neg h3 ?_
  rw [if_neg h3]
  by_cases h4 : c = 114
  · refine Ev.pos h4 ?_
    rw [if_pos h4]
    by_cases h : i = 0
    · refine Ev.pos (by omega) (Ev.eq (Ev.now _) ?_)
      rw [wrap_id (by omega) (by omega)]; simp [h]
    · refine Ev.neg (by omega) ?_
      have e5 : wrap64 ((i : Int) - 1) = ((i - 1 : Nat) : Int) := by rw [wrap_id (by omega) (by omega)]; omega
      simp only [e5]
      refine Ev.pos (by omega) (Ev.pos (by omega) ?_)
      by_cases hl : bt p ((i - 1 : Nat) : Int) < bt p i
      · refine Ev.pos hl (Ev.eq (Ev.now _) ?_)
        rw [wrap_id (by omega) (by omega)]; simp [h, hl]
      · exact Ev.neg hl (Ev.eq (Ev.now _) (by simp [h, hl]))
  refine Ev.neg h4 ?_
  rw [if_neg h4]
  by_cases h5 : c = 102
  · refine Ev.pos h5 ?_
    rw [if_pos h5]
    by_cases h : i = 0
    · refine Ev.pos (by omega) (Ev.eq (Ev.now _) ?_)
      simp [h]
    · refine Ev.neg (by omega) ?_
      have e5 : wrap64 ((i : Int) - 1) = ((i - 1 : Nat) : Int) := by rw [wrap_id (by omega) (by omega)]; omega
      simp only [e5]
      refine Ev.pos (by omega) (Ev.pos (by omega) ?_)
      by_cases hl : bt p i < bt p ((i - 1 : Nat) : Int)
      · refine Ev.pos hl (Ev.eq (Ev.now _) ?_)
        simp [h, hl]
      · exact Ev.neg hl (Ev.eq (Ev.now _) (by simp [h, hl]))
  refine Ev.neg h5 (Ev.pos (by omega) ?_)
  rw [if_neg h5]
  unfold strings_IndexByte.f
  simp only [Option.bind_some]
  refine Ev.eq (Ev.now _) ?_
  rw [show ((i : Int)).toNat = i by omega]
  exact idx_new p i (by omega)

/-- what 'may' asks of a text's first digits it asks of the text -/
theorem newTo_extract (s : ByteArray) (m : Nat) (hm : m ≤ s.size) (i : Nat) (hi : i < m) : ∀ k, k ≤ i → newTo (s.extract 0 m) i k = newTo s i k
  | 0, _ => rfl
  | k + 1, h => by
    simp only [newTo]
    rw [newTo_extract s m hm i hi k (by omega), bt_extract0 s m hm k (by omega), bt_extract0 s m hm i hi]
theorem mayAt_extract (c : Int) (s : ByteArray) (n i : Nat) (hi : i < s.size) (hn : i + 1 ≤ n) : mayAt c (s.extract 0 (i + 1)) n i = mayAt c s n i := by
  unfold mayAt
  have b := fun (j : Nat) (hj : j < i + 1) => bt_extract0 s (i + 1) (by omega) j hj
  have b0 := b 0 (by omega)
  rw [b i (by omega), b (i - 1) (by omega), newTo_extract s (i + 1) (by omega) i (by omega) i (by omega)]
  rw [show ((0 : Nat) : Int) = 0 from rfl] at b0
  rw [b0]
  by_cases h : i < n - 1 - i
  · simp [h]
  · rw [b (n - 1 - i) (by omega)]

end Go.Proofs.YtpdcjkiejglaiaaDoor.Q

/- Laid by a program of this session (wip/tools/own_print.py) over the translation of this seat: contracts of the functions that the statement reaches. -/
namespace Go.Proofs.YtpdcjkiejglaiaaDoor.Q
open Go.RowKit Go.Proofs.YtpdcjkiejglaiaaDoorW.PrintWords Go.Proofs.YtpdcjkiejglaiaaDoorW.PrintLast Go.Proofs.YtpdcjkiejglaiaaDoorW.PrintMore
attribute [local go_sem] max2_int min2_int max_two min_two max_three min_three max_four min_four   -- for this text's walks alone
set_option linter.unusedVariables false
set_option linter.unusedSimpArgs false

/-! ### spec_miUpside: function 70 -/
mutual
def spec_miUpside.l0 : Nat → ByteArray → ByteArray → Int → Option (ByteArray × Bool)
  | 0, _, _, _ => none
  | k + 1, x0, x4, x5 => if x5 ≥ 0 then (if 0 ≤ x5 then (if x5 < (x0.size : Int) then (if (bt x0 x5) = 48 then (spec_miUpside.j1 k x0 x4 x5 (bt x0 x5) ((bt x0 x5) == 48)) else (if (bt x0 x5) = 49 then (spec_miUpside.j1 k x0 x4 x5 (bt x0 x5) ((bt x0 x5) == 49)) else (spec_miUpside.j1 k x0 x4 x5 (bt x0 x5) ((bt x0 x5) == 56)))) else (none)) else (none)) else (some (x4, true))
def spec_miUpside.j1 : Nat → ByteArray → ByteArray → Int → Int → Bool → Option (ByteArray × Bool)
  | 0, _, _, _, _, _ => none
  | k + 1, x0, x4, x5, x15, x16 => if x16 = true then (if 0 ≤ x5 then (if x5 ≤ (wrap64 (x5 + 1)) then (if (wrap64 (x5 + 1)) ≤ (x0.size : Int) then (if x4.size + (x0.extract (x5 : Int).toNat ((wrap64 (x5 + 1)) : Int).toNat).size ≤ 9223372036854775807 then (spec_miUpside.l0 k x0 (x4 ++ (x0.extract (x5 : Int).toNat ((wrap64 (x5 + 1)) : Int).toNat)) (wrap64 (x5 - 1))) else (none)) else (none)) else (none)) else (none)) else (if x15 = 54 then (if x4.size + 1 ≤ 9223372036854775807 then (spec_miUpside.l0 k x0 (x4 ++ (⟨#[57]⟩ : ByteArray)) (wrap64 (x5 - 1))) else (none)) else (if x15 = 57 then (if x4.size + 1 ≤ 9223372036854775807 then (spec_miUpside.l0 k x0 (x4 ++ (⟨#[54]⟩ : ByteArray)) (wrap64 (x5 - 1))) else (none)) else (some ((⟨#[]⟩ : ByteArray), false))))
end
def spec_miUpside.f (k : Nat) (a0 : ByteArray) : Option (ByteArray × Bool) := spec_miUpside.l0 k a0 (⟨#[]⟩ : ByteArray) (wrap64 ((a0.size : Int) - 1))
theorem spec_miUpside.mono_l : ∀ k, (∀ y0 y1 y2, LeO (spec_miUpside.l0 k y0 y1 y2) (spec_miUpside.l0 (k + 1) y0 y1 y2)) ∧ (∀ y0 y1 y2 y3 y4, LeO (spec_miUpside.j1 k y0 y1 y2 y3 y4) (spec_miUpside.j1 (k + 1) y0 y1 y2 y3 y4))
  | 0 => ⟨fun _ _ _ r h => by simp [spec_miUpside.l0] at h, fun _ _ _ _ _ r h => by simp [spec_miUpside.j1] at h⟩
  | k + 1 => by
    obtain ⟨ih0, ih1⟩ := spec_miUpside.mono_l k
    refine ⟨?_, ?_⟩
    · intro y0 y1 y2
      unfold spec_miUpside.l0
      repeat' first
      | (with_reducible exact ih0 _ _ _)
      | (with_reducible exact ih1 _ _ _ _ _)
      | (with_reducible exact LeO.refl _)
      | (with_reducible exact LeO.none _)
      | (with_reducible refine LeO.ite ?_ ?_)
      | (with_reducible refine LeO.bind ?_ (fun _ => ?_))
      | exact ih0 _ _ _
      | exact ih1 _ _ _ _ _
      | exact LeO.none _
      | refine LeO.ite ?_ ?_
      | refine LeO.bind ?_ (fun _ => ?_)
    · intro y0 y1 y2 y3 y4
      unfold spec_miUpside.j1
      repeat' first
      | (with_reducible exact ih0 _ _ _)
      | (with_reducible exact ih1 _ _ _ _ _)
      | (with_reducible exact LeO.refl _)
      | (with_reducible exact LeO.none _)
      | (with_reducible refine LeO.ite ?_ ?_)
      | (with_reducible refine LeO.bind ?_ (fun _ => ?_))
      | exact ih0 _ _ _
      | exact ih1 _ _ _ _ _
      | exact LeO.none _
      | refine LeO.ite ?_ ?_
      | refine LeO.bind ?_ (fun _ => ?_)
theorem spec_miUpside.mono : ∀ a0 k, LeO (spec_miUpside.f k a0) (spec_miUpside.f (k + 1) a0) := by
  intro a0 k
  obtain ⟨ih0, ih1⟩ := spec_miUpside.mono_l k
  unfold spec_miUpside.f
  repeat' first
      | (with_reducible exact ih0 _ _ _)
      | (with_reducible exact ih1 _ _ _ _ _)
      | (with_reducible exact LeO.refl _)
      | (with_reducible exact LeO.none _)
      | (with_reducible refine LeO.ite ?_ ?_)
      | (with_reducible refine LeO.bind ?_ (fun _ => ?_))
      | exact ih0 _ _ _
      | exact ih1 _ _ _ _ _
      | exact LeO.none _
      | refine LeO.ite ?_ ?_
      | refine LeO.bind ?_ (fun _ => ?_)
set_option maxHeartbeats 8000000 in
set_option maxRecDepth 100000 in
theorem spec_miUpside.calls (k : Nat) (a0 : ByteArray) (r1 : ByteArray) (r2 : Bool) (w : World) (h : spec_miUpside.f k a0 = some (r1, r2)) :
    Calls Tryd.prog 70 #[.string a0] w fun e w' => e = .returned (.tuple #[.string r1, .bool r2]) ∧ Drawn0 w w' := by
  have H : (spec_miUpside.l0 k a0 (⟨#[]⟩ : ByteArray) (wrap64 ((a0.size : Int) - 1))) = some (r1, r2) := h
  clear h
  have H' := Aside0.mk H
  clear H
  go_enter Tryd.func70, Tryd.ntmps70
  go_wp2
  go_loopg [4, 5] k (fun kq v4 v5 w' => ∃ (x4_1 : ByteArray) (x5_1 : Int), v4 = .string x4_1 ∧ v5 = .int .i64 x5_1 ∧ Aside0 (spec_miUpside.l0 kq a0 x4_1 x5_1 = some (r1, r2)) ∧ Aside0 (kq ≤ k) ∧ Drawn0 w w')
  case atStart => exact ⟨((⟨#[]⟩ : ByteArray)), (wrap64 ((a0.size : Int) - 1)), (by first | rfl | (simp; done) | (simp [*]; done)), (by first | rfl | (simp; done) | (simp [*]; done)), H', ⟨Nat.le_refl _⟩, by repeat (first | exact Drawn0.refl _ | apply Drawn0.step)⟩
  case round =>
    clear H'
    obtain ⟨x4_1, x5_1, rfl, rfl, HA, HK1, ⟨m1, rfl⟩⟩ := hrel
    cases gk with
    | zero => exact absurd HA.out (by simp [spec_miUpside.l0])
    | succ k1 =>
      have H := HA.out
      clear HA
      simp only [spec_miUpside.l0] at H
      by_cases c2 : x5_1 ≥ 0
      · rw [if_pos c2] at H
        have c2b0 : decide (0 ≤ x5_1) = true := decide_eq_true c2
        clear c2
        by_cases c3 : 0 ≤ x5_1
        · rw [if_pos c3] at H
          have c3b0 : decide (0 ≤ x5_1) = true := decide_eq_true c3
          clear c3
          by_cases c4 : x5_1 < (a0.size : Int)
          · rw [if_pos c4] at H
            have c4b0 : decide (x5_1 < (a0.size : Int)) = true := decide_eq_true c4
            clear c4
            have HC6 := Aside0.mk H
            clear H
            have p5 : 0 ≤ (x5_1 : Int) := of_decide_eq_true (by first | (with_reducible assumption) | assumption)
            have q5 : x5_1 < (a0.size : Int) := of_decide_eq_true (by first | (with_reducible assumption) | assumption)
            have hx5 := bt_at a0 x5_1
            replace p5 := eq_true p5
            replace q5 := eq_true q5
            go_upto_if 16 with (fail)
            go_cut [16] (fun v16 wc => ∃ (kq : Nat) (x16_5 : Bool), v16 = .bool x16_5 ∧ Aside0 (spec_miUpside.j1 kq a0 x4_1 x5_1 (bt a0 x5_1) x16_5 = some (r1, r2)) ∧ Aside0 (kq ≤ k1) ∧ Drawn0 w wc)
            case first =>
              have H := HC6.out
              clear HC6
              by_cases c7 : (bt a0 x5_1) = 48
              · rw [if_pos c7] at H
                have c7b0 : ((bt a0 x5_1) == 48) = true := beq_iff_eq.mpr c7
                have c7b1 : ((bt a0 x5_1) != 48) = false := bne_eq_false_iff_eq.mpr c7
                clear c7
                (first | rw [c7b0] | (simp only [i64_w, i32_w]; rw [c7b0]) | skip)
                have H' := Aside0.mk H
                clear H
                go_wp2
                go_meet
                case rel => exact ⟨_, (((bt a0 x5_1) == 48)), (by first | rfl | (simp; done) | (simp [*]; done)), H', ⟨by have := HK1.out; first | omega | exact Nat.le_refl _⟩, by repeat (first | exact Drawn0.refl _ | apply Drawn0.step)⟩
              · rw [if_neg c7] at H
                have c7b0 : ((bt a0 x5_1) == 48) = false := beq_eq_false_iff_ne.mpr c7
                have c7b1 : ((bt a0 x5_1) != 48) = true := bne_iff_ne.mpr c7
                (first | rw [c7b0] | (simp only [i64_w, i32_w]; rw [c7b0]) | skip)
                by_cases c8 : (bt a0 x5_1) = 49
                · rw [if_pos c8] at H
                  have c8b0 : ((bt a0 x5_1) == 49) = true := beq_iff_eq.mpr c8
                  have c8b1 : ((bt a0 x5_1) != 49) = false := bne_eq_false_iff_eq.mpr c8
                  clear c8
                  have H' := Aside0.mk H
                  clear H
                  go_wp2
                  go_meet
                  case rel => exact ⟨_, (((bt a0 x5_1) == 49)), (by first | rfl | (simp; done) | (simp [*]; done)), H', ⟨by have := HK1.out; first | omega | exact Nat.le_refl _⟩, by repeat (first | exact Drawn0.refl _ | apply Drawn0.step)⟩
                · rw [if_neg c8] at H
                  have c8b0 : ((bt a0 x5_1) == 49) = false := beq_eq_false_iff_ne.mpr c8
                  have c8b1 : ((bt a0 x5_1) != 49) = true := bne_iff_ne.mpr c8
                  have H' := Aside0.mk H
                  clear H
                  go_wp2
                  go_meet
                  case rel => exact ⟨_, (((bt a0 x5_1) == 56)), (by first | rfl | (simp; done) | (simp [*]; done)), H', ⟨by have := HK1.out; first | omega | exact Nat.le_refl _⟩, by repeat (first | exact Drawn0.refl _ | apply Drawn0.step)⟩
            case rest =>
              clear HC6
              try clear c2
              try clear c2b0
              try clear p2
              try clear c3
              try clear c3b0
              try clear c4
              try clear c4b0
              try clear p5
              try clear q5
              try clear hx5
              try clear p6
              try clear c7
              try clear c7b0
              try clear c7b1
              try clear c8
              try clear c8b0
              try clear c8b1
              try clear p5
              try clear q5
              obtain ⟨kq, x16_5, rfl, HA, HJ5, ⟨mc5, rfl⟩⟩ := hcut
              cases kq with
              | zero => exact absurd HA.out (by simp [spec_miUpside.j1])
              | succ kj5 =>
                have H := HA.out
                clear HA
                simp only [spec_miUpside.j1] at H
                by_cases c9 : x16_5 = true
                · subst c9
                  have H1 : (if 0 ≤ x5_1 then (if x5_1 ≤ (wrap64 (x5_1 + 1)) then (if (wrap64 (x5_1 + 1)) ≤ (a0.size : Int) then (if x4_1.size + (a0.extract (x5_1 : Int).toNat ((wrap64 (x5_1 + 1)) : Int).toNat).size ≤ 9223372036854775807 then (spec_miUpside.l0 kj5 a0 (x4_1 ++ (a0.extract (x5_1 : Int).toNat ((wrap64 (x5_1 + 1)) : Int).toNat)) (wrap64 (x5_1 - 1))) else (none)) else (none)) else (none)) else (none)) = some (r1, r2) := by rw [if_pos rfl] at H; exact H
                  clear H
                  have H := H1
                  clear H1
                  by_cases c10 : 0 ≤ x5_1
                  · rw [if_pos c10] at H
                    have c10b0 := eq_true c10
                    have c10b1 : decide (0 ≤ x5_1) = true := decide_eq_true c10
                    clear c10
                    by_cases c11 : x5_1 ≤ (wrap64 (x5_1 + 1))
                    · rw [if_pos c11] at H
                      have c11b0 := eq_true c11
                      have c11b1 : decide (x5_1 ≤ (wrap64 (x5_1 + 1))) = true := decide_eq_true c11
                      by_cases c12 : (wrap64 (x5_1 + 1)) ≤ (a0.size : Int)
                      · rw [if_pos c12] at H
                        have c12b0 := eq_true c12
                        have c12b1 : decide ((wrap64 (x5_1 + 1)) ≤ (a0.size : Int)) = true := decide_eq_true c12
                        by_cases c13 : x4_1.size + (a0.extract (x5_1 : Int).toNat ((wrap64 (x5_1 + 1)) : Int).toNat).size ≤ 9223372036854775807
                        · rw [if_pos c13] at H
                          have c13b0 := eq_true c13
                          have c13b1 : decide (x4_1.size + (a0.extract (x5_1 : Int).toNat ((wrap64 (x5_1 + 1)) : Int).toNat).size ≤ 9223372036854775807) = true := decide_eq_true c13
                          try have c13b2 : (9223372036854775807 < x4_1.size + (a0.extract (x5_1 : Int).toNat ((wrap64 (x5_1 + 1)) : Int).toNat).size) = False := eq_false (Nat.not_lt.2 c13)
                          have H' := Aside0.mk H
                          clear H
                          go_wp2
                          go_roundg kj5
                          case measure => have := HK1.out; have := HJ5.out; omega
                          case rel => exact ⟨(x4_1 ++ (a0.extract (x5_1 : Int).toNat ((wrap64 (x5_1 + 1)) : Int).toNat)), (wrap64 (x5_1 - 1)), (by first | rfl | (simp; done) | (simp [*]; done)), (by first | rfl | (simp; done) | (simp [*]; done)), H', ⟨by have := HK1.out; have := HJ5.out; omega⟩, by repeat (first | exact Drawn0.refl _ | apply Drawn0.step)⟩
                        · rw [if_neg c13] at H
                          exact absurd H (by simp)
                      · rw [if_neg c12] at H
                        exact absurd H (by simp)
                    · rw [if_neg c11] at H
                      exact absurd H (by simp)
                  · rw [if_neg c10] at H
                    exact absurd H (by simp)
                · replace c9 := Bool.eq_false_iff.mpr c9
                  subst c9
                  have H1 : (if (bt a0 x5_1) = 54 then (if x4_1.size + 1 ≤ 9223372036854775807 then (spec_miUpside.l0 kj5 a0 (x4_1 ++ (⟨#[57]⟩ : ByteArray)) (wrap64 (x5_1 - 1))) else (none)) else (if (bt a0 x5_1) = 57 then (if x4_1.size + 1 ≤ 9223372036854775807 then (spec_miUpside.l0 kj5 a0 (x4_1 ++ (⟨#[54]⟩ : ByteArray)) (wrap64 (x5_1 - 1))) else (none)) else (some ((⟨#[]⟩ : ByteArray), false)))) = some (r1, r2) := by rw [if_neg (show ¬ (false = true) by decide)] at H; exact H
                  clear H
                  have H := H1
                  clear H1
                  by_cases c14 : (bt a0 x5_1) = 54
                  · rw [if_pos c14] at H
                    have c14b0 : ((bt a0 x5_1) == 54) = true := beq_iff_eq.mpr c14
                    have c14b1 : ((bt a0 x5_1) != 54) = false := bne_eq_false_iff_eq.mpr c14
                    clear c14
                    by_cases c15 : x4_1.size + 1 ≤ 9223372036854775807
                    · rw [if_pos c15] at H
                      have c15b0 := eq_true c15
                      have c15b1 : decide (x4_1.size + 1 ≤ 9223372036854775807) = true := decide_eq_true c15
                      try have c15b2 : (9223372036854775807 < x4_1.size + 1) = False := eq_false (Nat.not_lt.2 c15)
                      have H' := Aside0.mk H
                      clear H
                      go_wp2
                      go_roundg kj5
                      case measure => have := HK1.out; have := HJ5.out; omega
                      case rel => exact ⟨(x4_1 ++ (⟨#[57]⟩ : ByteArray)), (wrap64 (x5_1 - 1)), (by first | rfl | (simp; done) | (simp [*]; done)), (by first | rfl | (simp; done) | (simp [*]; done)), H', ⟨by have := HK1.out; have := HJ5.out; omega⟩, by repeat (first | exact Drawn0.refl _ | apply Drawn0.step)⟩
                    · rw [if_neg c15] at H
                      exact absurd H (by simp)
                  · rw [if_neg c14] at H
                    have c14b0 : ((bt a0 x5_1) == 54) = false := beq_eq_false_iff_ne.mpr c14
                    have c14b1 : ((bt a0 x5_1) != 54) = true := bne_iff_ne.mpr c14
                    by_cases c16 : (bt a0 x5_1) = 57
                    · rw [if_pos c16] at H
                      have c16b0 : ((bt a0 x5_1) == 57) = true := beq_iff_eq.mpr c16
                      have c16b1 : ((bt a0 x5_1) != 57) = false := bne_eq_false_iff_eq.mpr c16
                      clear c16
                      by_cases c17 : x4_1.size + 1 ≤ 9223372036854775807
                      · rw [if_pos c17] at H
                        have c17b0 := eq_true c17
                        have c17b1 : decide (x4_1.size + 1 ≤ 9223372036854775807) = true := decide_eq_true c17
                        try have c17b2 : (9223372036854775807 < x4_1.size + 1) = False := eq_false (Nat.not_lt.2 c17)
                        have H' := Aside0.mk H
                        clear H
                        go_wp2
                        go_roundg kj5
                        case measure => have := HK1.out; have := HJ5.out; omega
                        case rel => exact ⟨(x4_1 ++ (⟨#[54]⟩ : ByteArray)), (wrap64 (x5_1 - 1)), (by first | rfl | (simp; done) | (simp [*]; done)), (by first | rfl | (simp; done) | (simp [*]; done)), H', ⟨by have := HK1.out; have := HJ5.out; omega⟩, by repeat (first | exact Drawn0.refl _ | apply Drawn0.step)⟩
                      · rw [if_neg c17] at H
                        exact absurd H (by simp)
                    · rw [if_neg c16] at H
                      have c16b0 : ((bt a0 x5_1) == 57) = false := beq_eq_false_iff_ne.mpr c16
                      have c16b1 : ((bt a0 x5_1) != 57) = true := bne_iff_ne.mpr c16
                      simp only [Option.some.injEq, Prod.mk.injEq] at H
                      obtain ⟨rfl, rfl⟩ := H
                      go_wp2
                      go_ret2
                      exact ⟨by first | rfl | (simp; done) | (simp [*]; done), by repeat (first | exact Drawn0.refl _ | apply Drawn0.step)⟩
          · rw [if_neg c4] at H
            exact absurd H (by simp)
        · rw [if_neg c3] at H
          exact absurd H (by simp)
      · rw [if_neg c2] at H
        have c2b0 : decide (0 ≤ x5_1) = false := decide_eq_false c2
        clear c2
        simp only [Option.some.injEq, Prod.mk.injEq] at H
        obtain ⟨rfl, rfl⟩ := H
        go_wp2
        go_ret2
        exact ⟨by first | rfl | (simp; done) | (simp [*]; done), by repeat (first | exact Drawn0.refl _ | apply Drawn0.step)⟩

end Go.Proofs.YtpdcjkiejglaiaaDoor.Q

/- Laid by a program of this session (wip/tools/own_print.py) over the translation of this seat: contracts of the functions that the statement reaches. -/
namespace Go.Proofs.YtpdcjkiejglaiaaDoor.Q
open Go.RowKit Go.Proofs.YtpdcjkiejglaiaaDoorW.PrintWords Go.Proofs.YtpdcjkiejglaiaaDoorW.PrintLast Go.Proofs.YtpdcjkiejglaiaaDoorW.PrintMore
attribute [local go_sem] max2_int min2_int max_two min_two max_three min_three max_four min_four   -- for this text's walks alone
set_option linter.unusedVariables false
set_option linter.unusedSimpArgs false

/-! ### spec_miTurn: function 83 -/
def spec_miTurn.l0 : Nat → ByteArray → ByteArray → Int → Option (ByteArray)
  | 0, _, _, _ => none
  | k + 1, x0, x3, x4 => if x4 ≥ 0 then (if 0 ≤ x4 then (if x4 ≤ (wrap64 (x4 + 1)) then (if (wrap64 (x4 + 1)) ≤ (x0.size : Int) then (if x3.size + (x0.extract (x4 : Int).toNat ((wrap64 (x4 + 1)) : Int).toNat).size ≤ 9223372036854775807 then (spec_miTurn.l0 k x0 (x3 ++ (x0.extract (x4 : Int).toNat ((wrap64 (x4 + 1)) : Int).toNat)) (wrap64 (x4 - 1))) else (none)) else (none)) else (none)) else (none)) else (some x3)
def spec_miTurn.f (k : Nat) (a0 : ByteArray) : Option (ByteArray) := spec_miTurn.l0 k a0 (⟨#[]⟩ : ByteArray) (wrap64 ((a0.size : Int) - 1))
theorem spec_miTurn.mono_l : ∀ k, (∀ y0 y1 y2, LeO (spec_miTurn.l0 k y0 y1 y2) (spec_miTurn.l0 (k + 1) y0 y1 y2))
  | 0 => fun _ _ _ r h => by simp [spec_miTurn.l0] at h
  | k + 1 => by
    have ih0 := spec_miTurn.mono_l k
    · intro y0 y1 y2
      unfold spec_miTurn.l0
      repeat' first
      | (with_reducible exact ih0 _ _ _)
      | (with_reducible exact LeO.refl _)
      | (with_reducible exact LeO.none _)
      | (with_reducible refine LeO.ite ?_ ?_)
      | (with_reducible refine LeO.bind ?_ (fun _ => ?_))
      | exact ih0 _ _ _
      | exact LeO.none _
      | refine LeO.ite ?_ ?_
      | refine LeO.bind ?_ (fun _ => ?_)
theorem spec_miTurn.mono : ∀ a0 k, LeO (spec_miTurn.f k a0) (spec_miTurn.f (k + 1) a0) := by
  intro a0 k
  have ih0 := spec_miTurn.mono_l k
  unfold spec_miTurn.f
  repeat' first
      | (with_reducible exact ih0 _ _ _)
      | (with_reducible exact LeO.refl _)
      | (with_reducible exact LeO.none _)
      | (with_reducible refine LeO.ite ?_ ?_)
      | (with_reducible refine LeO.bind ?_ (fun _ => ?_))
      | exact ih0 _ _ _
      | exact LeO.none _
      | refine LeO.ite ?_ ?_
      | refine LeO.bind ?_ (fun _ => ?_)
set_option maxHeartbeats 8000000 in
set_option maxRecDepth 100000 in
theorem spec_miTurn.calls (k : Nat) (a0 : ByteArray) (r : ByteArray) (w : World) (h : spec_miTurn.f k a0 = some r) :
    Calls Tryd.prog 83 #[.string a0] w fun e w' => e = .returned (.string r) ∧ Drawn0 w w' := by
  have H : (spec_miTurn.l0 k a0 (⟨#[]⟩ : ByteArray) (wrap64 ((a0.size : Int) - 1))) = some r := h
  clear h
  have H' := Aside0.mk H
  clear H
  go_enter Tryd.func83, Tryd.ntmps83
  go_wp2
  go_loopg [3, 4] k (fun kq v3 v4 w' => ∃ (x3_1 : ByteArray) (x4_1 : Int), v3 = .string x3_1 ∧ v4 = .int .i64 x4_1 ∧ Aside0 (spec_miTurn.l0 kq a0 x3_1 x4_1 = some r) ∧ Aside0 (kq ≤ k) ∧ Drawn0 w w')
  case atStart => exact ⟨((⟨#[]⟩ : ByteArray)), (wrap64 ((a0.size : Int) - 1)), (by first | rfl | (simp; done) | (simp [*]; done)), (by first | rfl | (simp; done) | (simp [*]; done)), H', ⟨Nat.le_refl _⟩, by repeat (first | exact Drawn0.refl _ | apply Drawn0.step)⟩
  case round =>
    clear H'
    obtain ⟨x3_1, x4_1, rfl, rfl, HA, HK1, ⟨m1, rfl⟩⟩ := hrel
    cases gk with
    | zero => exact absurd HA.out (by simp [spec_miTurn.l0])
    | succ k1 =>
      have H := HA.out
      clear HA
      simp only [spec_miTurn.l0] at H
      by_cases c2 : x4_1 ≥ 0
      · rw [if_pos c2] at H
        have c2b0 : decide (0 ≤ x4_1) = true := decide_eq_true c2
        clear c2
        by_cases c3 : 0 ≤ x4_1
        · rw [if_pos c3] at H
          have c3b0 := eq_true c3
          have c3b1 : decide (0 ≤ x4_1) = true := decide_eq_true c3
          clear c3
          by_cases c4 : x4_1 ≤ (wrap64 (x4_1 + 1))
          · rw [if_pos c4] at H
            have c4b0 := eq_true c4
            have c4b1 : decide (x4_1 ≤ (wrap64 (x4_1 + 1))) = true := decide_eq_true c4
            by_cases c5 : (wrap64 (x4_1 + 1)) ≤ (a0.size : Int)
            · rw [if_pos c5] at H
              have c5b0 := eq_true c5
              have c5b1 : decide ((wrap64 (x4_1 + 1)) ≤ (a0.size : Int)) = true := decide_eq_true c5
              by_cases c6 : x3_1.size + (a0.extract (x4_1 : Int).toNat ((wrap64 (x4_1 + 1)) : Int).toNat).size ≤ 9223372036854775807
              · rw [if_pos c6] at H
                have c6b0 := eq_true c6
                have c6b1 : decide (x3_1.size + (a0.extract (x4_1 : Int).toNat ((wrap64 (x4_1 + 1)) : Int).toNat).size ≤ 9223372036854775807) = true := decide_eq_true c6
                try have c6b2 : (9223372036854775807 < x3_1.size + (a0.extract (x4_1 : Int).toNat ((wrap64 (x4_1 + 1)) : Int).toNat).size) = False := eq_false (Nat.not_lt.2 c6)
                have H' := Aside0.mk H
                clear H
                go_wp2
                go_roundg k1
                case measure => have := HK1.out; omega
                case rel => exact ⟨(x3_1 ++ (a0.extract (x4_1 : Int).toNat ((wrap64 (x4_1 + 1)) : Int).toNat)), (wrap64 (x4_1 - 1)), (by first | rfl | (simp; done) | (simp [*]; done)), (by first | rfl | (simp; done) | (simp [*]; done)), H', ⟨by have := HK1.out; omega⟩, by repeat (first | exact Drawn0.refl _ | apply Drawn0.step)⟩
              · rw [if_neg c6] at H
                exact absurd H (by simp)
            · rw [if_neg c5] at H
              exact absurd H (by simp)
          · rw [if_neg c4] at H
            exact absurd H (by simp)
        · rw [if_neg c3] at H
          exact absurd H (by simp)
      · rw [if_neg c2] at H
        have c2b0 : decide (0 ≤ x4_1) = false := decide_eq_false c2
        clear c2
        obtain rfl := Option.some.inj H
        go_wp2
        go_ret
        exact ⟨by first | rfl | (simp; done) | (simp [*]; done), by repeat (first | exact Drawn0.refl _ | apply Drawn0.step)⟩

end Go.Proofs.YtpdcjkiejglaiaaDoor.Q

/- Laid by a program of this session (wip/tools/own_print.py) over the translation of this seat: contracts of the functions that the statement reaches. -/
namespace Go.Proofs.YtpdcjkiejglaiaaDoor.Q
open Go.RowKit Go.Proofs.YtpdcjkiejglaiaaDoorW.PrintWords Go.Proofs.YtpdcjkiejglaiaaDoorW.PrintLast Go.Proofs.YtpdcjkiejglaiaaDoorW.PrintMore
attribute [local go_sem] max2_int min2_int max_two min_two max_three min_three max_four min_four   -- for this text's walks alone
set_option linter.unusedVariables false
set_option linter.unusedSimpArgs false

/-! ### spec_miIs: function 68 -/
def spec_miIs.l0 : Nat → ByteArray → ByteArray → Int → Option (Bool)
  | 0, _, _, _ => none
  | k + 1, x0, x1, x7 => if x7 < (x0.size : Int) then (if x1.toList = ([114] : List UInt8) then (if 0 ≤ x7 then (if 0 ≤ (wrap64 (x7 - 1)) then (if (wrap64 (x7 - 1)) < (x0.size : Int) then (if (bt x0 x7) ≤ (bt x0 (wrap64 (x7 - 1))) then (some false) else (if x1.toList = ([102] : List UInt8) then (if (bt x0 x7) ≥ (bt x0 (wrap64 (x7 - 1))) then (some false) else (spec_miIs.l0 k x0 x1 (wrap64 (x7 + 1)))) else (spec_miIs.l0 k x0 x1 (wrap64 (x7 + 1))))) else (none)) else (none)) else (none)) else (if x1.toList = ([102] : List UInt8) then (if 0 ≤ x7 then (if 0 ≤ (wrap64 (x7 - 1)) then (if (wrap64 (x7 - 1)) < (x0.size : Int) then (if (bt x0 x7) ≥ (bt x0 (wrap64 (x7 - 1))) then (some false) else (spec_miIs.l0 k x0 x1 (wrap64 (x7 + 1)))) else (none)) else (none)) else (none)) else (spec_miIs.l0 k x0 x1 (wrap64 (x7 + 1))))) else (some true)
def spec_miIs.f (k : Nat) (a0 : ByteArray) (a1 : ByteArray) : Option (Bool) := if a1.toList = ([97] : List UInt8) then ((spec_miDigits.f a0).bind fun t101 => (some (t101 == 1))) else (if a1.toList = ([109] : List UInt8) then ((spec_miTurn.f k a0).bind fun t102 => (some (t102.toList == a0.toList))) else (if a1.toList = ([117] : List UInt8) then ((spec_miUpside.f k a0).bind fun bt103 => (if bt103.2 = true then (some (bt103.1.toList == a0.toList)) else (some false))) else (if a1.toList = ([100] : List UInt8) then ((spec_miDigits.f a0).bind fun t105 => (some (t105 == (a0.size : Int)))) else (spec_miIs.l0 k a0 a1 1))))
theorem spec_miIs.mono_l : ∀ k, (∀ y0 y1 y2, LeO (spec_miIs.l0 k y0 y1 y2) (spec_miIs.l0 (k + 1) y0 y1 y2))
  | 0 => fun _ _ _ r h => by simp [spec_miIs.l0] at h
  | k + 1 => by
    have ih0 := spec_miIs.mono_l k
    · intro y0 y1 y2
      unfold spec_miIs.l0
      repeat' first
      | (with_reducible exact ih0 _ _ _)
      | (with_reducible exact spec_miTurn.mono _ _)
      | (with_reducible exact spec_miUpside.mono _ _)
      | (with_reducible exact LeO.refl _)
      | (with_reducible exact LeO.none _)
      | (with_reducible refine LeO.ite ?_ ?_)
      | (with_reducible refine LeO.bind ?_ (fun _ => ?_))
      | exact ih0 _ _ _
      | exact spec_miTurn.mono _ _
      | exact spec_miUpside.mono _ _
      | exact LeO.none _
      | refine LeO.ite ?_ ?_
      | refine LeO.bind ?_ (fun _ => ?_)
theorem spec_miIs.mono : ∀ a0 a1 k, LeO (spec_miIs.f k a0 a1) (spec_miIs.f (k + 1) a0 a1) := by
  intro a0 a1 k
  have ih0 := spec_miIs.mono_l k
  unfold spec_miIs.f
  repeat' first
      | (with_reducible exact ih0 _ _ _)
      | (with_reducible exact spec_miTurn.mono _ _)
      | (with_reducible exact spec_miUpside.mono _ _)
      | (with_reducible exact LeO.refl _)
      | (with_reducible exact LeO.none _)
      | (with_reducible refine LeO.ite ?_ ?_)
      | (with_reducible refine LeO.bind ?_ (fun _ => ?_))
      | exact ih0 _ _ _
      | exact spec_miTurn.mono _ _
      | exact spec_miUpside.mono _ _
      | exact LeO.none _
      | refine LeO.ite ?_ ?_
      | refine LeO.bind ?_ (fun _ => ?_)
set_option maxHeartbeats 8000000 in
set_option maxRecDepth 100000 in
theorem spec_miIs.calls (k : Nat) (a0 : ByteArray) (a1 : ByteArray) (r : Bool) (w : World) (h : spec_miIs.f k a0 a1 = some r) :
    Calls Tryd.prog 68 #[.string a0, .string a1] w fun e w' => e = .returned (.bool r) ∧ Below w.heap.size w w' := by
  have HB := Aside0.mk (Below.refl w.heap.size w)
  have H : (if a1.toList = ([97] : List UInt8) then ((spec_miDigits.f a0).bind fun t101 => (some (t101 == 1))) else (if a1.toList = ([109] : List UInt8) then ((spec_miTurn.f k a0).bind fun t102 => (some (t102.toList == a0.toList))) else (if a1.toList = ([117] : List UInt8) then ((spec_miUpside.f k a0).bind fun bt103 => (if bt103.2 = true then (some (bt103.1.toList == a0.toList)) else (some false))) else (if a1.toList = ([100] : List UInt8) then ((spec_miDigits.f a0).bind fun t105 => (some (t105 == (a0.size : Int)))) else (spec_miIs.l0 k a0 a1 1))))) = some r := h
  clear h
  by_cases c3 : a1.toList = ([97] : List UInt8)
  · rw [if_pos c3] at H
    have c3b0 : (a1.toList == ([97] : List UInt8)) = true := beq_iff_eq.mpr c3
    have c3b1 : (a1.toList != ([97] : List UInt8)) = false := bne_eq_false_iff_eq.mpr c3
    clear c3
    replace H := Option.bind_eq_some_iff.mp H
    obtain ⟨t101, A40, H⟩ := H
    replace H : (some (t101 == 1)) = some r := H
    have A4 := Aside0.mk A40
    clear A40
    obtain rfl := Option.some.inj H
    go_enter Tryd.func68, Tryd.ntmps68
    go_wp2_with (first | (go_at_call 69; (with_reducible refine (spec_miDigits.calls a0 t101 _ A4.out).mono ?_); rintro e w5 ⟨rfl, hb⟩; have n0_ := Aside0.mk (below_step (by repeat (first | (with_reducible first | exact HB.out | apply below_alloc | apply pw_below_drewN | apply below_drew1) | exact HB.out)) hb); clear HB; have HB := n0_; clear n0_; (try clear hb); (try clear hb2); (try clear hk); (try clear hi)))
    repeat (go_quiet (first | (go_at_call 69; (with_reducible refine (spec_miDigits.calls a0 t101 _ A4.out).mono ?_); rintro e w5 ⟨rfl, hb⟩; have n0_ := Aside0.mk (below_step (by repeat (first | (with_reducible first | exact HB.out | apply below_alloc | apply pw_below_drewN | apply below_drew1) | exact HB.out)) hb); clear HB; have HB := n0_; clear n0_; (try clear hb); (try clear hb2); (try clear hk); (try clear hi))); try go_wp2_with (first | (go_at_call 69; (with_reducible refine (spec_miDigits.calls a0 t101 _ A4.out).mono ?_); rintro e w5 ⟨rfl, hb⟩; have n0_ := Aside0.mk (below_step (by repeat (first | (with_reducible first | exact HB.out | apply below_alloc | apply pw_below_drewN | apply below_drew1) | exact HB.out)) hb); clear HB; have HB := n0_; clear n0_; (try clear hb); (try clear hb2); (try clear hk); (try clear hi))))
    go_ret
    exact ⟨by first | rfl | (simp [errW_none, errW_some] <;> rfl) | (simp [*, errW_none, errW_some] <;> rfl), by repeat (first | (with_reducible first | exact HB.out | apply below_alloc | apply pw_below_drewN | apply below_drew1) | exact HB.out)⟩
  · rw [if_neg c3] at H
    have c3b0 : (a1.toList == ([97] : List UInt8)) = false := beq_eq_false_iff_ne.mpr c3
    have c3b1 : (a1.toList != ([97] : List UInt8)) = true := bne_iff_ne.mpr c3
    by_cases c6 : a1.toList = ([109] : List UInt8)
    · rw [if_pos c6] at H
      have c6b0 : (a1.toList == ([109] : List UInt8)) = true := beq_iff_eq.mpr c6
      have c6b1 : (a1.toList != ([109] : List UInt8)) = false := bne_eq_false_iff_eq.mpr c6
      clear c6
      replace H := Option.bind_eq_some_iff.mp H
      obtain ⟨t102, A70, H⟩ := H
      replace H : (some (t102.toList == a0.toList)) = some r := H
      have A7 := Aside0.mk A70
      clear A70
      obtain rfl := Option.some.inj H
      go_enter Tryd.func68, Tryd.ntmps68
      go_wp2_with (first | (go_at_call 83; (with_reducible refine (spec_miTurn.calls k a0 t102 _ A7.out).mono ?_); rintro e w' ⟨rfl, ⟨nd, rfl⟩⟩; (try first | exact ⟨rfl, _, World.drewN_drewN _ _ _⟩ | exact ⟨rfl, _, Eq.trans (World.drewN_drewN _ _ _) (congrArg (World.drewN _) (Nat.add_assoc _ _ _))⟩)))
      repeat (go_quiet (first | (go_at_call 83; (with_reducible refine (spec_miTurn.calls k a0 t102 _ A7.out).mono ?_); rintro e w' ⟨rfl, ⟨nd, rfl⟩⟩; (try first | exact ⟨rfl, _, World.drewN_drewN _ _ _⟩ | exact ⟨rfl, _, Eq.trans (World.drewN_drewN _ _ _) (congrArg (World.drewN _) (Nat.add_assoc _ _ _))⟩))); try go_wp2_with (first | (go_at_call 83; (with_reducible refine (spec_miTurn.calls k a0 t102 _ A7.out).mono ?_); rintro e w' ⟨rfl, ⟨nd, rfl⟩⟩; (try first | exact ⟨rfl, _, World.drewN_drewN _ _ _⟩ | exact ⟨rfl, _, Eq.trans (World.drewN_drewN _ _ _) (congrArg (World.drewN _) (Nat.add_assoc _ _ _))⟩))))
      go_ret
      exact ⟨by first | rfl | (simp [errW_none, errW_some] <;> rfl) | (simp [*, errW_none, errW_some] <;> rfl), by repeat (first | (with_reducible first | exact HB.out | apply below_alloc | apply pw_below_drewN | apply below_drew1) | exact HB.out)⟩
    · rw [if_neg c6] at H
      have c6b0 : (a1.toList == ([109] : List UInt8)) = false := beq_eq_false_iff_ne.mpr c6
      have c6b1 : (a1.toList != ([109] : List UInt8)) = true := bne_iff_ne.mpr c6
      by_cases c8 : a1.toList = ([117] : List UInt8)
      · rw [if_pos c8] at H
        have c8b0 : (a1.toList == ([117] : List UInt8)) = true := beq_iff_eq.mpr c8
        have c8b1 : (a1.toList != ([117] : List UInt8)) = false := bne_eq_false_iff_eq.mpr c8
        clear c8
        replace H := Option.bind_eq_some_iff.mp H
        obtain ⟨⟨t103, t104⟩, A90, H⟩ := H
        replace H : (if t104 = true then (some (t103.toList == a0.toList)) else (some false)) = some r := H
        have A9 := Aside0.mk A90
        clear A90
        by_cases c10 : t104 = true
        · subst c10
          have H1 : (some (t103.toList == a0.toList)) = some r := by rw [if_pos rfl] at H; exact H
          clear H
          have H := H1
          clear H1
          obtain rfl := Option.some.inj H
          go_enter Tryd.func68, Tryd.ntmps68
          go_wp2_with (first | (go_at_call 70; (with_reducible refine (spec_miUpside.calls k a0 t103 true _ A9.out).mono ?_); rintro e w' ⟨rfl, ⟨nd, rfl⟩⟩; (try first | exact ⟨rfl, _, World.drewN_drewN _ _ _⟩ | exact ⟨rfl, _, Eq.trans (World.drewN_drewN _ _ _) (congrArg (World.drewN _) (Nat.add_assoc _ _ _))⟩)))
          repeat (go_quiet (first | (go_at_call 70; (with_reducible refine (spec_miUpside.calls k a0 t103 true _ A9.out).mono ?_); rintro e w' ⟨rfl, ⟨nd, rfl⟩⟩; (try first | exact ⟨rfl, _, World.drewN_drewN _ _ _⟩ | exact ⟨rfl, _, Eq.trans (World.drewN_drewN _ _ _) (congrArg (World.drewN _) (Nat.add_assoc _ _ _))⟩))); try go_wp2_with (first | (go_at_call 70; (with_reducible refine (spec_miUpside.calls k a0 t103 true _ A9.out).mono ?_); rintro e w' ⟨rfl, ⟨nd, rfl⟩⟩; (try first | exact ⟨rfl, _, World.drewN_drewN _ _ _⟩ | exact ⟨rfl, _, Eq.trans (World.drewN_drewN _ _ _) (congrArg (World.drewN _) (Nat.add_assoc _ _ _))⟩))))
          go_ret
          exact ⟨by first | rfl | (simp [errW_none, errW_some] <;> rfl) | (simp [*, errW_none, errW_some] <;> rfl), by repeat (first | (with_reducible first | exact HB.out | apply below_alloc | apply pw_below_drewN | apply below_drew1) | exact HB.out)⟩
        · replace c10 := Bool.eq_false_iff.mpr c10
          subst c10
          have H1 : (some false) = some r := by rw [if_neg (show ¬ (false = true) by decide)] at H; exact H
          clear H
          have H := H1
          clear H1
          obtain rfl := Option.some.inj H
          go_enter Tryd.func68, Tryd.ntmps68
          go_wp2_with (first | (go_at_call 70; (with_reducible refine (spec_miUpside.calls k a0 t103 false _ A9.out).mono ?_); rintro e w' ⟨rfl, ⟨nd, rfl⟩⟩; (try first | exact ⟨rfl, _, World.drewN_drewN _ _ _⟩ | exact ⟨rfl, _, Eq.trans (World.drewN_drewN _ _ _) (congrArg (World.drewN _) (Nat.add_assoc _ _ _))⟩)))
          repeat (go_quiet (first | (go_at_call 70; (with_reducible refine (spec_miUpside.calls k a0 t103 false _ A9.out).mono ?_); rintro e w' ⟨rfl, ⟨nd, rfl⟩⟩; (try first | exact ⟨rfl, _, World.drewN_drewN _ _ _⟩ | exact ⟨rfl, _, Eq.trans (World.drewN_drewN _ _ _) (congrArg (World.drewN _) (Nat.add_assoc _ _ _))⟩))); try go_wp2_with (first | (go_at_call 70; (with_reducible refine (spec_miUpside.calls k a0 t103 false _ A9.out).mono ?_); rintro e w' ⟨rfl, ⟨nd, rfl⟩⟩; (try first | exact ⟨rfl, _, World.drewN_drewN _ _ _⟩ | exact ⟨rfl, _, Eq.trans (World.drewN_drewN _ _ _) (congrArg (World.drewN _) (Nat.add_assoc _ _ _))⟩))))
          go_ret
          exact ⟨by first | rfl | (simp [errW_none, errW_some] <;> rfl) | (simp [*, errW_none, errW_some] <;> rfl), by repeat (first | (with_reducible first | exact HB.out | apply below_alloc | apply pw_below_drewN | apply below_drew1) | exact HB.out)⟩
      · rw [if_neg c8] at H
        have c8b0 : (a1.toList == ([117] : List UInt8)) = false := beq_eq_false_iff_ne.mpr c8
        have c8b1 : (a1.toList != ([117] : List UInt8)) = true := bne_iff_ne.mpr c8
        by_cases c11 : a1.toList = ([100] : List UInt8)
        · rw [if_pos c11] at H
          have c11b0 : (a1.toList == ([100] : List UInt8)) = true := beq_iff_eq.mpr c11
          have c11b1 : (a1.toList != ([100] : List UInt8)) = false := bne_eq_false_iff_eq.mpr c11
          clear c11
          replace H := Option.bind_eq_some_iff.mp H
          obtain ⟨t105, A120, H⟩ := H
          replace H : (some (t105 == (a0.size : Int))) = some r := H
          have A12 := Aside0.mk A120
          clear A120
          obtain rfl := Option.some.inj H
          go_enter Tryd.func68, Tryd.ntmps68
          go_wp2_with (first | (go_at_call 69; (with_reducible refine (spec_miDigits.calls a0 t105 _ A12.out).mono ?_); rintro e w13 ⟨rfl, hb⟩; have n0_ := Aside0.mk (below_step (by repeat (first | (with_reducible first | exact HB.out | apply below_alloc | apply pw_below_drewN | apply below_drew1) | exact HB.out)) hb); clear HB; have HB := n0_; clear n0_; (try clear hb); (try clear hb2); (try clear hk); (try clear hi)))
          repeat (go_quiet (first | (go_at_call 69; (with_reducible refine (spec_miDigits.calls a0 t105 _ A12.out).mono ?_); rintro e w13 ⟨rfl, hb⟩; have n0_ := Aside0.mk (below_step (by repeat (first | (with_reducible first | exact HB.out | apply below_alloc | apply pw_below_drewN | apply below_drew1) | exact HB.out)) hb); clear HB; have HB := n0_; clear n0_; (try clear hb); (try clear hb2); (try clear hk); (try clear hi))); try go_wp2_with (first | (go_at_call 69; (with_reducible refine (spec_miDigits.calls a0 t105 _ A12.out).mono ?_); rintro e w13 ⟨rfl, hb⟩; have n0_ := Aside0.mk (below_step (by repeat (first | (with_reducible first | exact HB.out | apply below_alloc | apply pw_below_drewN | apply below_drew1) | exact HB.out)) hb); clear HB; have HB := n0_; clear n0_; (try clear hb); (try clear hb2); (try clear hk); (try clear hi))))
          go_ret
          exact ⟨by first | rfl | (simp [errW_none, errW_some] <;> rfl) | (simp [*, errW_none, errW_some] <;> rfl), by repeat (first | (with_reducible first | exact HB.out | apply below_alloc | apply pw_below_drewN | apply below_drew1) | exact HB.out)⟩
        · rw [if_neg c11] at H
          have c11b0 : (a1.toList == ([100] : List UInt8)) = false := beq_eq_false_iff_ne.mpr c11
          have c11b1 : (a1.toList != ([100] : List UInt8)) = true := bne_iff_ne.mpr c11
          have H' := Aside0.mk H
          clear H
          go_enter Tryd.func68, Tryd.ntmps68
          go_wp2
          repeat (go_quiet (fail); try go_wp2)
          go_loopg [7] k (fun kq v7 w' => ∃ (x7_1 : Int), v7 = .int .i64 x7_1 ∧ Aside0 (spec_miIs.l0 kq a0 a1 x7_1 = some r) ∧ Aside0 (kq ≤ k) ∧ Aside0 (Below w.heap.size w w'))
          case atStart => exact ⟨(1), (by first | rfl | (simp; done) | (simp [*]; done)), H', ⟨Nat.le_refl _⟩, ⟨by repeat (first | (with_reducible first | exact HB.out | apply below_alloc | apply pw_below_drewN | apply below_drew1) | exact HB.out)⟩⟩
          case round =>
            clear H'
            try clear c1
            try clear p2
            try clear c3
            try clear c3b0
            try clear c3b1
            try clear c6
            try clear c6b0
            try clear c6b1
            try clear c8
            try clear c8b0
            try clear c8b1
            try clear c10
            try clear c11
            try clear c11b0
            try clear c11b1
            obtain ⟨x7_1, rfl, HA, HK1, HB⟩ := hrel
            cases gk with
            | zero => exact absurd HA.out (by simp [spec_miIs.l0])
            | succ k1 =>
              have H := HA.out
              clear HA
              simp only [spec_miIs.l0] at H
              by_cases c14 : x7_1 < (a0.size : Int)
              · rw [if_pos c14] at H
                have c14b0 : decide (x7_1 < (a0.size : Int)) = true := decide_eq_true c14
                clear c14
                by_cases c15 : a1.toList = ([114] : List UInt8)
                · rw [if_pos c15] at H
                  have c15b0 : (a1.toList == ([114] : List UInt8)) = true := beq_iff_eq.mpr c15
                  have c15b1 : (a1.toList != ([114] : List UInt8)) = false := bne_eq_false_iff_eq.mpr c15
                  clear c15
                  by_cases c16 : 0 ≤ x7_1
                  · rw [if_pos c16] at H
                    have c16b0 : decide (0 ≤ x7_1) = true := decide_eq_true c16
                    clear c16
                    obtain ⟨ji18, hji18⟩ : ∃ j_ : Int, (wrap64 (x7_1 - 1)) = j_ := ⟨_, rfl⟩
                    replace H : (if 0 ≤ (ji18) then (if (ji18) < (a0.size : Int) then (if (bt a0 x7_1) ≤ (bt a0 (ji18)) then (some false) else (if a1.toList = ([102] : List UInt8) then (if (bt a0 x7_1) ≥ (bt a0 (ji18)) then (some false) else (spec_miIs.l0 k1 a0 a1 (wrap64 (x7_1 + 1)))) else (spec_miIs.l0 k1 a0 a1 (wrap64 (x7_1 + 1))))) else (none)) else (none)) = some r := by first | (rw [hji18] at H; exact H) | (simp only [hji18] at H ⊢; exact H)
                    have hji18w : (IntKind.i64.wrap (x7_1 - 1)) = ji18 := (i64_w _).trans hji18
                    by_cases c19 : 0 ≤ (ji18)
                    · rw [if_pos c19] at H
                      have c19b0 : decide (0 ≤ (ji18)) = true := decide_eq_true c19
                      clear c19
                      by_cases c20 : (ji18) < (a0.size : Int)
                      · rw [if_pos c20] at H
                        have c20b0 : decide ((ji18) < (a0.size : Int)) = true := decide_eq_true c20
                        clear c20
                        by_cases c22 : (bt a0 x7_1) ≤ (bt a0 (ji18))
                        · rw [if_pos c22] at H
                          have c22b0 : decide ((bt a0 x7_1) ≤ (bt a0 (ji18))) = true := decide_eq_true c22
                          clear c22
                          obtain rfl := Option.some.inj H
                          have p17 : 0 ≤ (x7_1 : Int) := of_decide_eq_true (by first | (with_reducible assumption) | assumption)
                          have q17 : x7_1 < (a0.size : Int) := of_decide_eq_true (by first | (with_reducible assumption) | assumption)
                          have hx17 := bt_at a0 x7_1
                          replace p17 := eq_true p17
                          replace q17 := eq_true q17
                          have p21 : 0 ≤ ((ji18) : Int) := of_decide_eq_true (by first | (with_reducible assumption) | assumption)
                          have q21 : (ji18) < (a0.size : Int) := of_decide_eq_true (by first | (with_reducible assumption) | assumption)
                          have hx21 := bt_at a0 (ji18)
                          replace p21 := eq_true p21
                          replace q21 := eq_true q21
                          go_wp2
                          repeat (go_quiet (fail); try go_wp2)
                          go_ret
                          exact ⟨by first | rfl | (simp [errW_none, errW_some] <;> rfl) | (simp only [← hji18]; first | rfl | (simp [errW_none, errW_some] <;> rfl)) | (simp [*, errW_none, errW_some] <;> rfl), by repeat (first | (with_reducible first | exact HB.out | apply below_alloc | apply pw_below_drewN | apply below_drew1) | exact HB.out)⟩
                        · rw [if_neg c22] at H
                          have c22b0 : decide ((bt a0 x7_1) ≤ (bt a0 (ji18))) = false := decide_eq_false c22
                          clear c22
                          by_cases c23 : a1.toList = ([102] : List UInt8)
                          · rw [if_pos c23] at H
                            have c23b0 : (a1.toList == ([102] : List UInt8)) = true := beq_iff_eq.mpr c23
                            have c23b1 : (a1.toList != ([102] : List UInt8)) = false := bne_eq_false_iff_eq.mpr c23
                            clear c23
                            by_cases c26 : (bt a0 x7_1) ≥ (bt a0 (ji18))
                            · rw [if_pos c26] at H
                              have c26b0 : decide ((bt a0 (ji18)) ≤ (bt a0 x7_1)) = true := decide_eq_true c26
                              clear c26
                              obtain rfl := Option.some.inj H
                              have p17 : 0 ≤ (x7_1 : Int) := of_decide_eq_true (by first | (with_reducible assumption) | assumption)
                              have q17 : x7_1 < (a0.size : Int) := of_decide_eq_true (by first | (with_reducible assumption) | assumption)
                              have hx17 := bt_at a0 x7_1
                              replace p17 := eq_true p17
                              replace q17 := eq_true q17
                              have p21 : 0 ≤ ((ji18) : Int) := of_decide_eq_true (by first | (with_reducible assumption) | assumption)
                              have q21 : (ji18) < (a0.size : Int) := of_decide_eq_true (by first | (with_reducible assumption) | assumption)
                              have hx21 := bt_at a0 (ji18)
                              replace p21 := eq_true p21
                              replace q21 := eq_true q21
                              have p24 : 0 ≤ (x7_1 : Int) := of_decide_eq_true (by first | (with_reducible assumption) | assumption)
                              have q24 : x7_1 < (a0.size : Int) := of_decide_eq_true (by first | (with_reducible assumption) | assumption)
                              have hx24 := bt_at a0 x7_1
                              replace p24 := eq_true p24
                              replace q24 := eq_true q24
                              have p25 : 0 ≤ ((ji18) : Int) := of_decide_eq_true (by first | (with_reducible assumption) | assumption)
                              have q25 : (ji18) < (a0.size : Int) := of_decide_eq_true (by first | (with_reducible assumption) | assumption)
                              have hx25 := bt_at a0 (ji18)
                              replace p25 := eq_true p25
                              replace q25 := eq_true q25
                              go_wp2
                              repeat (go_quiet (fail); try go_wp2)
                              go_ret
                              exact ⟨by first | rfl | (simp [errW_none, errW_some] <;> rfl) | (simp only [← hji18]; first | rfl | (simp [errW_none, errW_some] <;> rfl)) | (simp [*, errW_none, errW_some] <;> rfl), by repeat (first | (with_reducible first | exact HB.out | apply below_alloc | apply pw_below_drewN | apply below_drew1) | exact HB.out)⟩
                            · rw [if_neg c26] at H
                              have c26b0 : decide ((bt a0 (ji18)) ≤ (bt a0 x7_1)) = false := decide_eq_false c26
                              clear c26
                              have H' := Aside0.mk H
                              clear H
                              have p17 : 0 ≤ (x7_1 : Int) := of_decide_eq_true (by first | (with_reducible assumption) | assumption)
                              have q17 : x7_1 < (a0.size : Int) := of_decide_eq_true (by first | (with_reducible assumption) | assumption)
                              have hx17 := bt_at a0 x7_1
                              replace p17 := eq_true p17
                              replace q17 := eq_true q17
                              have p21 : 0 ≤ ((ji18) : Int) := of_decide_eq_true (by first | (with_reducible assumption) | assumption)
                              have q21 : (ji18) < (a0.size : Int) := of_decide_eq_true (by first | (with_reducible assumption) | assumption)
                              have hx21 := bt_at a0 (ji18)
                              replace p21 := eq_true p21
                              replace q21 := eq_true q21
                              have p24 : 0 ≤ (x7_1 : Int) := of_decide_eq_true (by first | (with_reducible assumption) | assumption)
                              have q24 : x7_1 < (a0.size : Int) := of_decide_eq_true (by first | (with_reducible assumption) | assumption)
                              have hx24 := bt_at a0 x7_1
                              replace p24 := eq_true p24
                              replace q24 := eq_true q24
                              have p25 : 0 ≤ ((ji18) : Int) := of_decide_eq_true (by first | (with_reducible assumption) | assumption)
                              have q25 : (ji18) < (a0.size : Int) := of_decide_eq_true (by first | (with_reducible assumption) | assumption)
                              have hx25 := bt_at a0 (ji18)
                              replace p25 := eq_true p25
                              replace q25 := eq_true q25
                              go_wp2
                              repeat (go_quiet (fail); try go_wp2)
                              go_roundg k1
                              case measure => have := HK1.out; omega
                              case rel => exact ⟨(wrap64 (x7_1 + 1)), (by first | rfl | (simp; done) | (simp [*]; done)), H', ⟨by have := HK1.out; omega⟩, ⟨by repeat (first | (with_reducible first | exact HB.out | apply below_alloc | apply pw_below_drewN | apply below_drew1) | exact HB.out)⟩⟩
                          · rw [if_neg c23] at H
                            have c23b0 : (a1.toList == ([102] : List UInt8)) = false := beq_eq_false_iff_ne.mpr c23
                            have c23b1 : (a1.toList != ([102] : List UInt8)) = true := bne_iff_ne.mpr c23
                            have H' := Aside0.mk H
                            clear H
                            have p17 : 0 ≤ (x7_1 : Int) := of_decide_eq_true (by first | (with_reducible assumption) | assumption)
                            have q17 : x7_1 < (a0.size : Int) := of_decide_eq_true (by first | (with_reducible assumption) | assumption)
                            have hx17 := bt_at a0 x7_1
                            replace p17 := eq_true p17
                            replace q17 := eq_true q17
                            have p21 : 0 ≤ ((ji18) : Int) := of_decide_eq_true (by first | (with_reducible assumption) | assumption)
                            have q21 : (ji18) < (a0.size : Int) := of_decide_eq_true (by first | (with_reducible assumption) | assumption)
                            have hx21 := bt_at a0 (ji18)
                            replace p21 := eq_true p21
                            replace q21 := eq_true q21
                            go_wp2
                            repeat (go_quiet (fail); try go_wp2)
                            go_roundg k1
                            case measure => have := HK1.out; omega
                            case rel => exact ⟨(wrap64 (x7_1 + 1)), (by first | rfl | (simp; done) | (simp [*]; done)), H', ⟨by have := HK1.out; omega⟩, ⟨by repeat (first | (with_reducible first | exact HB.out | apply below_alloc | apply pw_below_drewN | apply below_drew1) | exact HB.out)⟩⟩
                      · rw [if_neg c20] at H
                        exact absurd H (by simp)
                    · rw [if_neg c19] at H
                      exact absurd H (by simp)
                  · rw [if_neg c16] at H
                    exact absurd H (by simp)
                · rw [if_neg c15] at H
                  have c15b0 : (a1.toList == ([114] : List UInt8)) = false := beq_eq_false_iff_ne.mpr c15
                  have c15b1 : (a1.toList != ([114] : List UInt8)) = true := bne_iff_ne.mpr c15
                  by_cases c27 : a1.toList = ([102] : List UInt8)
                  · rw [if_pos c27] at H
                    have c27b0 : (a1.toList == ([102] : List UInt8)) = true := beq_iff_eq.mpr c27
                    have c27b1 : (a1.toList != ([102] : List UInt8)) = false := bne_eq_false_iff_eq.mpr c27
                    clear c27
                    by_cases c28 : 0 ≤ x7_1
                    · rw [if_pos c28] at H
                      have c28b0 : decide (0 ≤ x7_1) = true := decide_eq_true c28
                      clear c28
                      obtain ⟨ji30, hji30⟩ : ∃ j_ : Int, (wrap64 (x7_1 - 1)) = j_ := ⟨_, rfl⟩
                      replace H : (if 0 ≤ (ji30) then (if (ji30) < (a0.size : Int) then (if (bt a0 x7_1) ≥ (bt a0 (ji30)) then (some false) else (spec_miIs.l0 k1 a0 a1 (wrap64 (x7_1 + 1)))) else (none)) else (none)) = some r := by first | (rw [hji30] at H; exact H) | (simp only [hji30] at H ⊢; exact H)
                      have hji30w : (IntKind.i64.wrap (x7_1 - 1)) = ji30 := (i64_w _).trans hji30
                      by_cases c31 : 0 ≤ (ji30)
                      · rw [if_pos c31] at H
                        have c31b0 : decide (0 ≤ (ji30)) = true := decide_eq_true c31
                        clear c31
                        by_cases c32 : (ji30) < (a0.size : Int)
                        · rw [if_pos c32] at H
                          have c32b0 : decide ((ji30) < (a0.size : Int)) = true := decide_eq_true c32
                          clear c32
                          by_cases c34 : (bt a0 x7_1) ≥ (bt a0 (ji30))
                          · rw [if_pos c34] at H
                            have c34b0 : decide ((bt a0 (ji30)) ≤ (bt a0 x7_1)) = true := decide_eq_true c34
                            clear c34
                            obtain rfl := Option.some.inj H
                            have p29 : 0 ≤ (x7_1 : Int) := of_decide_eq_true (by first | (with_reducible assumption) | assumption)
                            have q29 : x7_1 < (a0.size : Int) := of_decide_eq_true (by first | (with_reducible assumption) | assumption)
                            have hx29 := bt_at a0 x7_1
                            replace p29 := eq_true p29
                            replace q29 := eq_true q29
                            have p33 : 0 ≤ ((ji30) : Int) := of_decide_eq_true (by first | (with_reducible assumption) | assumption)
                            have q33 : (ji30) < (a0.size : Int) := of_decide_eq_true (by first | (with_reducible assumption) | assumption)
                            have hx33 := bt_at a0 (ji30)
                            replace p33 := eq_true p33
                            replace q33 := eq_true q33
                            go_wp2
                            repeat (go_quiet (fail); try go_wp2)
                            go_ret
                            exact ⟨by first | rfl | (simp [errW_none, errW_some] <;> rfl) | (simp only [← hji30]; first | rfl | (simp [errW_none, errW_some] <;> rfl)) | (simp [*, errW_none, errW_some] <;> rfl), by repeat (first | (with_reducible first | exact HB.out | apply below_alloc | apply pw_below_drewN | apply below_drew1) | exact HB.out)⟩
                          · rw [if_neg c34] at H
                            have c34b0 : decide ((bt a0 (ji30)) ≤ (bt a0 x7_1)) = false := decide_eq_false c34
                            clear c34
                            have H' := Aside0.mk H
                            clear H
                            have p29 : 0 ≤ (x7_1 : Int) := of_decide_eq_true (by first | (with_reducible assumption) | assumption)
                            have q29 : x7_1 < (a0.size : Int) := of_decide_eq_true (by first | (with_reducible assumption) | assumption)
                            have hx29 := bt_at a0 x7_1
                            replace p29 := eq_true p29
                            replace q29 := eq_true q29
                            have p33 : 0 ≤ ((ji30) : Int) := of_decide_eq_true (by first | (with_reducible assumption) | assumption)
                            have q33 : (ji30) < (a0.size : Int) := of_decide_eq_true (by first | (with_reducible assumption) | assumption)
                            have hx33 := bt_at a0 (ji30)
                            replace p33 := eq_true p33
                            replace q33 := eq_true q33
                            go_wp2
                            repeat (go_quiet (fail); try go_wp2)
                            go_roundg k1
                            case measure => have := HK1.out; omega
                            case rel => exact ⟨(wrap64 (x7_1 + 1)), (by first | rfl | (simp; done) | (simp [*]; done)), H', ⟨by have := HK1.out; omega⟩, ⟨by repeat (first | (with_reducible first | exact HB.out | apply below_alloc | apply pw_below_drewN | apply below_drew1) | exact HB.out)⟩⟩
                        · rw [if_neg c32] at H
                          exact absurd H (by simp)
                      · rw [if_neg c31] at H
                        exact absurd H (by simp)
                    · rw [if_neg c28] at H
                      exact absurd H (by simp)
                  · rw [if_neg c27] at H
                    have c27b0 : (a1.toList == ([102] : List UInt8)) = false := beq_eq_false_iff_ne.mpr c27
                    have c27b1 : (a1.toList != ([102] : List UInt8)) = true := bne_iff_ne.mpr c27
                    have H' := Aside0.mk H
                    clear H
                    go_wp2
                    repeat (go_quiet (fail); try go_wp2)
                    go_roundg k1
                    case measure => have := HK1.out; omega
                    case rel => exact ⟨(wrap64 (x7_1 + 1)), (by first | rfl | (simp; done) | (simp [*]; done)), H', ⟨by have := HK1.out; omega⟩, ⟨by repeat (first | (with_reducible first | exact HB.out | apply below_alloc | apply pw_below_drewN | apply below_drew1) | exact HB.out)⟩⟩
              · rw [if_neg c14] at H
                have c14b0 : decide (x7_1 < (a0.size : Int)) = false := decide_eq_false c14
                clear c14
                obtain rfl := Option.some.inj H
                go_wp2
                repeat (go_quiet (fail); try go_wp2)
                go_ret
                exact ⟨by first | rfl | (simp [errW_none, errW_some] <;> rfl) | (simp [*, errW_none, errW_some] <;> rfl), by repeat (first | (with_reducible first | exact HB.out | apply below_alloc | apply pw_below_drewN | apply below_drew1) | exact HB.out)⟩

end Go.Proofs.YtpdcjkiejglaiaaDoor.Q

/-
  The reference's readings turned, upside down, and its test of a kind, in plain words: a reading is of a kind just if each of its digits may stand where it stands.
-/
namespace Go.Proofs.YtpdcjkiejglaiaaDoor.Q
open Go.RowKit Go.Proofs.YtpdcjkiejglaiaaDoorW.PrintWords Go.Proofs.YtpdcjkiejglaiaaDoorW.PrintLast Go.Proofs.YtpdcjkiejglaiaaDoorW.PrintMore
set_option linter.unusedVariables false
set_option linter.unusedSimpArgs false

theorem li_one (s : ByteArray) (i : Nat) (hi : i < s.size) : li (s.extract i (i + 1)) = [bt s i] := by
  have h : i < (li s).length := by rw [li_length]; exact hi
  rw [li_extract, bt_li, show i + 1 - i = 1 by omega]
  have e : (li s).getD ((i : Int)).toNat 0 = (li s)[i] := by simp [List.getD_eq_getElem?_getD, h]
  rw [e, List.drop_eq_getElem_cons h]
  rfl
theorem li_take_succ (s : ByteArray) (i : Nat) (hi : i < s.size) : (li s).take (i + 1) = (li s).take i ++ [bt s i] := by
  have h : i < (li s).length := by rw [li_length]; exact hi
  rw [List.take_succ_eq_append_getElem h, bt_li]
  simp [List.getD_eq_getElem?_getD, h]
theorem getD_reverse (l : List Int) (i : Nat) (hi : i < l.length) : l.reverse.getD i 0 = l.getD (l.length - 1 - i) 0 := by
  have h2 : l.length - 1 - i < l.length := by omega
  simp [List.getD_eq_getElem?_getD, List.getElem?_reverse, hi, h2]

theorem turn_loop (s : ByteArray) (hs : s.size ≤ 140737488351232) : ∀ (i : Nat) (acc : ByteArray), i ≤ s.size → acc.size + i ≤ 281474976710656 →
    ∃ t, Ev (fun k => spec_miTurn.l0 k s acc ((i : Int) - 1)) t ∧ li t = li acc ++ ((li s).take i).reverse
  | 0, acc, _, _ => by
    refine ⟨acc, Ev.step (f := fun _ => some acc) (fun k => ?_) (Ev.now _), by simp⟩
    simp only [spec_miTurn.l0]
    rw [if_neg (by omega)]
  | i + 1, acc, hi, ha => by
    have hz : (s.extract i (i + 1)).size = 1 := by rw [ByteArray.size_extract]; omega
    obtain ⟨t, ht, hl⟩ := turn_loop s hs i (acc ++ s.extract i (i + 1)) (by omega) (by rw [ByteArray.size_append, hz]; omega)
    refine ⟨t, Ev.step (fun k => ?_) ht, ?_⟩
    · simp only [spec_miTurn.l0]
      have e0 : ((i + 1 : Nat) : Int) - 1 = (i : Int) := by omega
      rw [e0]
      have e1 : wrap64 ((i : Int) + 1) = ((i + 1 : Nat) : Int) := by rw [wrap_id (by omega) (by omega)]; rfl
      rw [e1, show ((i : Int)).toNat = i from rfl, show (((i + 1 : Nat) : Int)).toNat = i + 1 from rfl, hz]
      rw [if_pos (by omega), if_pos (by omega), if_pos (by omega), if_pos (by omega), if_pos (by omega), wrap_id (by omega) (by omega)]
    · rw [hl, li_append, li_one s i (by omega), li_take_succ s i (by omega)]
      simp
theorem miTurn_ev (s : ByteArray) (hs : s.size ≤ 140737488351232) : ∃ t, Ev (fun k => spec_miTurn.f k s) t ∧ li t = (li s).reverse := by
  obtain ⟨t, ht, hl⟩ := turn_loop s hs s.size ⟨#[]⟩ (Nat.le_refl _) (by show 0 + s.size ≤ _; omega)
  refine ⟨t, ?_, ?_⟩
  · unfold spec_miTurn.f
    rw [wrap_id (by omega) (by omega)]
    exact ht
  · rw [hl, List.take_of_length_le (by rw [li_length]; omega)]
    rfl

theorem li_lit1 (c : UInt8) : li ⟨#[c]⟩ = [(c.toNat : Int)] := rfl
theorem up_cases (x : Int) : (x = 48 ∨ x = 49 ∨ x = 56) ∧ up x = x ∨ x = 54 ∧ up x = 57 ∨ x = 57 ∧ up x = 54 ∨ x ≠ 48 ∧ x ≠ 49 ∧ x ≠ 56 ∧ x ≠ 54 ∧ x ≠ 57 ∧ up x = 0 := by
  unfold up
  by_cases h : x = 48 ∨ x = 49 ∨ x = 56
  · exact .inl ⟨h, by rw [if_pos h]⟩
  · rw [if_neg h]
    by_cases h4 : x = 54
    · subst h4; exact .inr (.inl ⟨rfl, by decide⟩)
    · by_cases h5 : x = 57
      · subst h5; exact .inr (.inr (.inl ⟨rfl, by decide⟩))
      · rw [if_neg h4, if_neg h5]
        exact .inr (.inr (.inr ⟨by omega, by omega, by omega, h4, h5, rfl⟩))
def upOk (s : ByteArray) (i : Nat) : Bool := up (bt s i) != 0
theorem up_loop (s : ByteArray) (hs : s.size ≤ 140737488351232) : ∀ (i : Nat) (acc : ByteArray), i ≤ s.size → acc.size + i ≤ 281474976710656 →
    ∃ t b, Ev (fun k => spec_miUpside.l0 k s acc ((i : Int) - 1)) (t, b) ∧ (b = true ↔ ∀ j : Nat, j < i → up (bt s j) ≠ 0) ∧ (b = true → li t = li acc ++ (((li s).take i).map up).reverse) ∧ (b = false → t = ⟨#[]⟩)
  | 0, acc, _, _ => by
    refine ⟨acc, true, Ev.step (f := fun _ => some (acc, true)) (fun k => ?_) (Ev.now _), by simp, by simp, by simp⟩
    simp only [spec_miUpside.l0]
    rw [if_neg (by omega)]
  | i + 1, acc, hi, ha => by
    have e0 : ((i + 1 : Nat) : Int) - 1 = (i : Int) := by omega
    have e1 : wrap64 ((i : Int) + 1) = ((i + 1 : Nat) : Int) := by rw [wrap_id (by omega) (by omega)]; rfl
    have hz : (s.extract i (i + 1)).size = 1 := by rw [ByteArray.size_extract]; omega
    have fin : ∀ (acc' : ByteArray), acc'.size = acc.size + 1 → li acc' = li acc ++ [up (bt s i)] → up (bt s i) ≠ 0 →
        (∀ q, Ev (fun k => spec_miUpside.l0 k s acc' ((i : Int) - 1)) q → Ev (fun k => spec_miUpside.l0 k s acc (i : Int)) q) →
        ∃ t b, Ev (fun k => spec_miUpside.l0 k s acc (i : Int)) (t, b) ∧ (b = true ↔ ∀ j : Nat, j < i + 1 → up (bt s j) ≠ 0) ∧ (b = true → li t = li acc ++ (((li s).take (i + 1)).map up).reverse) ∧ (b = false → t = ⟨#[]⟩) := by
      intro acc' hsz hl hu go
      obtain ⟨t, b, ht, h1, h2, h3⟩ := up_loop s hs i acc' (by omega) (by omega)
      refine ⟨t, b, go _ ht, ?_, ?_, h3⟩
      · rw [h1]
        constructor
        · intro h j hj
          by_cases e : j = i
          · rw [e]; exact hu
          · exact h j (by omega)
        · intro h j hj
          exact h j (by omega)
      · intro hb
        rw [h2 hb, hl, li_take_succ s i (by omega)]
        simp
    rw [e0]
    rcases up_cases (bt s i) with ⟨h, hu⟩ | ⟨h, hu⟩ | ⟨h, hu⟩ | ⟨h1, h2, h3, h4, h5, hu⟩
    · refine fin (acc ++ s.extract i (i + 1)) (by rw [ByteArray.size_append, hz]) (by rw [li_append, li_one s i (by omega), hu]) (by rw [hu]; omega) fun q hq => ?_
      have step : ∀ k, spec_miUpside.j1 (k + 1) s acc (i : Int) (bt s i) true = spec_miUpside.l0 k s (acc ++ s.extract i (i + 1)) ((i : Int) - 1) := by
        intro k
        simp only [spec_miUpside.j1]
        rw [if_true, e1, show ((i : Int)).toNat = i from rfl, show (((i + 1 : Nat) : Int)).toNat = i + 1 from rfl, hz]
        rw [if_pos (by omega), if_pos (by omega), if_pos (by omega), if_pos (by omega), wrap_id (by omega) (by omega)]
      refine Ev.step (f := fun k => spec_miUpside.j1 k s acc (i : Int) (bt s i) true) (fun k => ?_) (Ev.step step hq)
      simp only [spec_miUpside.l0]
      rw [if_pos (by omega), if_pos (by omega), if_pos (by omega)]
      by_cases h48 : bt s i = 48
      · rw [if_pos h48]; simp [h48]
      · rw [if_neg h48]
        by_cases h49 : bt s i = 49
        · rw [if_pos h49]; simp [h49]
        · rw [if_neg h49]
          have h56 : bt s i = 56 := by omega
          simp [h56]
    all_goals
      have j : ∀ k, spec_miUpside.l0 (k + 1) s acc (i : Int) = spec_miUpside.j1 k s acc (i : Int) (bt s i) false := by
        intro k
        simp only [spec_miUpside.l0]
        rw [if_pos (by omega), if_pos (by omega), if_pos (by omega), if_neg (by omega), if_neg (by omega)]
        have h56 : (bt s (i : Int) == 56) = false := by rw [beq_eq_false_iff_ne]; omega
        rw [h56]
    · refine fin (acc ++ ⟨#[57]⟩) (by rw [ByteArray.size_append]; rfl) (by rw [li_append, hu]; rfl) (by rw [hu]; decide) fun q hq => ?_
      refine Ev.step j (Ev.step (fun k => ?_) hq)
      simp only [spec_miUpside.j1]
      rw [if_neg (by decide), if_pos h, if_pos (by omega), wrap_id (by omega) (by omega)]
    · refine fin (acc ++ ⟨#[54]⟩) (by rw [ByteArray.size_append]; rfl) (by rw [li_append, hu]; rfl) (by rw [hu]; decide) fun q hq => ?_
      refine Ev.step j (Ev.step (fun k => ?_) hq)
      simp only [spec_miUpside.j1]
      rw [if_neg (by decide), if_neg (by omega), if_pos h, if_pos (by omega), wrap_id (by omega) (by omega)]
    · refine ⟨⟨#[]⟩, false, Ev.step j (Ev.step (f := fun _ => some (⟨#[]⟩, false)) (fun k => ?_) (Ev.now _)), ?_, by simp, by simp⟩
      · simp only [spec_miUpside.j1]
        rw [if_neg (by decide), if_neg h4, if_neg h5]
      · simp only [Bool.false_eq_true, false_iff]
        intro h
        exact h i (by omega) hu
theorem miUpside_ev (s : ByteArray) (hs : s.size ≤ 140737488351232) : ∃ t b, Ev (fun k => spec_miUpside.f k s) (t, b) ∧ (b = true ↔ ∀ j : Nat, j < s.size → up (bt s j) ≠ 0) ∧ (b = true → li t = ((li s).map up).reverse) ∧ (b = false → t = ⟨#[]⟩) := by
  obtain ⟨t, b, ht, h1, h2, h3⟩ := up_loop s hs s.size ⟨#[]⟩ (Nat.le_refl _) (by show 0 + s.size ≤ _; omega)
  refine ⟨t, b, ?_, h1, ?_, h3⟩
  · unfold spec_miUpside.f
    rw [wrap_id (by omega) (by omega)]
    exact ht
  · intro hb
    rw [h2 hb, List.take_of_length_le (by rw [li_length]; omega)]
    rfl

end Go.Proofs.YtpdcjkiejglaiaaDoor.Q

/- Laid by a program of this session (wip/tools/own_print.py) over the translation of this seat: contracts of the functions that the statement reaches. -/
namespace Go.Proofs.YtpdcjkiejglaiaaDoor.Q
open Go.RowKit Go.Proofs.YtpdcjkiejglaiaaDoorW.PrintWords Go.Proofs.YtpdcjkiejglaiaaDoorW.PrintLast Go.Proofs.YtpdcjkiejglaiaaDoorW.PrintMore
attribute [local go_sem] max2_int min2_int max_two min_two max_three min_three max_four min_four   -- for this text's walks alone
set_option linter.unusedVariables false
set_option linter.unusedSimpArgs false

/-! ### spec_l1Num: function 53 -/
def spec_l1Num.f : Nat → Int → Option (ByteArray)
  | 0, _ => none
  | k + 1, a0 => if a0 < 10 then (some (strOfNums (([(wrap64 (48 + a0)) % 256] : List Int)))) else ((spec_l1Num.f k (wrap64 (Int.tdiv a0 10))).bind fun t104 => ((some (([(wrap64 (48 + (Int.tmod a0 10))) % 256] : List Int) : List Int)).bind fun y105 => (if t104.size + (strOfNums y105).size ≤ 9223372036854775807 then (some (t104 ++ (strOfNums y105))) else (none))))
theorem spec_l1Num.mono_l : ∀ k, (∀ y0, LeO (spec_l1Num.f k y0) (spec_l1Num.f (k + 1) y0))
  | 0 => fun _ r h => by simp [spec_l1Num.f] at h
  | k + 1 => by
    have ih0 := spec_l1Num.mono_l k
    · intro y0
      unfold spec_l1Num.f
      repeat' first
      | (with_reducible exact ih0 _)
      | (with_reducible exact LeO.refl _)
      | (with_reducible exact LeO.none _)
      | (with_reducible refine LeO.ite ?_ ?_)
      | (with_reducible refine LeO.bind ?_ (fun _ => ?_))
      | exact ih0 _
      | exact LeO.none _
      | refine LeO.ite ?_ ?_
      | refine LeO.bind ?_ (fun _ => ?_)
theorem spec_l1Num.mono : ∀ a0 k, LeO (spec_l1Num.f k a0) (spec_l1Num.f (k + 1) a0) := by
  intro a0 k
  have ih0 := spec_l1Num.mono_l k
  exact ih0 a0
def spec_l1Num.T3 : Bool × List (List Nat × List Nat) := (true, [([], []), ([0], [0]), ([1], [1]), ([], []), ([3], [3]), ([4], [4]), ([5], [5]), ([6], [6]), ([7], [7]), ([2, 8], [2, 8]), ([9, 2, 0, 1, 2, 3, 4, 5, 6, 7, 8, 9], [9])])
def spec_l1Num.B3 : List Nat := [0, 1, 3, 0, 8, 24, 56, 120, 248, 511, 1023]
theorem spec_l1Num.tab3 : rtab .any (opsOf Tryd.f53 3) = spec_l1Num.T3 := by kernel_rfl
theorem spec_l1Num.bits3 : waitsOk spec_l1Num.T3.2 spec_l1Num.B3 = true := by kernel_rfl
set_option maxHeartbeats 8000000 in
set_option maxRecDepth 100000 in
theorem spec_l1Num.calls (k : Nat) : ∀ (a0 : Int) (r : ByteArray) (w : World) (h : spec_l1Num.f k a0 = some r),
    Calls Tryd.prog 53 #[.int .i64 a0] w fun e w' => e = .returned (.string r) ∧ Below w.heap.size w w' := by
  induction k using Nat.strongRecOn with
  | _ k ih =>
  intro a0 r w h
  cases k with
  | zero => exact absurd h (by simp [spec_l1Num.f])
  | succ k =>
  simp only [spec_l1Num.f] at h
  have HB := Aside0.mk (Below.refl w.heap.size w)
  have H : (if a0 < 10 then (some (strOfNums (([(wrap64 (48 + a0)) % 256] : List Int)))) else ((spec_l1Num.f k (wrap64 (Int.tdiv a0 10))).bind fun t104 => ((some (([(wrap64 (48 + (Int.tmod a0 10))) % 256] : List Int) : List Int)).bind fun y105 => (if t104.size + (strOfNums y105).size ≤ 9223372036854775807 then (some (t104 ++ (strOfNums y105))) else (none))))) = some r := h
  clear h
  by_cases c2 : a0 < 10
  · rw [if_pos c2] at H
    have c2b0 : decide (a0 < 10) = true := decide_eq_true c2
    clear c2
    obtain ⟨y101, hy101⟩ : ∃ y_ : List Int, y_ = (([(wrap64 (48 + a0)) % 256] : List Int)) := ⟨_, rfl⟩
    replace H : (some (strOfNums y101)) = some r := by first | (rw [hy101]; with_reducible exact H) | (have H2_ := (Option.bind_some _ _).symm.trans H; rw [hy101]; with_reducible exact H2_) | (have H2_ := (Option.bind_some _ _).symm.trans H; with_reducible exact H2_) | with_reducible exact H | (rw [hy101]; exact H) | exact H
    have Ny101 := Aside0.mk hy101
    clear hy101
    obtain rfl := Option.some.inj H
    go_enter Tryd.func53, Tryd.ntmps53
    go_wp2_with (first | ((with_reducible refine gate_dst (N := 8) rfl ?_); refine Kd.R_lit (Kd.int .u8) _ 5 ?hg (N := 8) ?hd (xs := ([(wrap64 (48 + a0)) % 256] : List Int)) (inner := [.int .u8 ((wrap64 (48 + a0)) % 256)]) (ok := fun _ => True) (okp := fun _ => True) ?hr ?hp (fun _ hk => hk) trivial (Below.refl _ _) (Nat.le_refl _) (by simp) ?_; (case hd => rfl); (case hg => rfl); (case hr => first | (go_simp; done) | (go_simp; rfl)); (case hp => exact (Reps.one (show Kd.M (Kd.int .u8) _ _ _ ((wrap64 (48 + a0)) % 256) [.int .u8 ((wrap64 (48 + a0)) % 256)] from rfl) (Reps.none _ _))); intro v102 w3 ho4 hb hg_ hnew_; clear hg_ hnew_; (first | rw [← Ny101.out] at ho4 | (simp only [Int.reduceToNat] at ho4; rw [← Ny101.out] at ho4)); have n0_ := Aside0.mk (Kd.R_lower ho4 (below_size (by repeat (first | (with_reducible first | exact HB.out | apply below_alloc | apply pw_below_drewN | apply below_drew1) | exact HB.out)))); have n1_ := Aside0.mk (below_step (by repeat (first | (with_reducible first | exact HB.out | apply below_alloc | apply pw_below_drewN | apply below_drew1) | exact HB.out)) hb); clear HB; have HO103 := n0_; have HB := n1_; clear n0_ n1_; clear hb ho4; have hcv5 := own_string (P := Tryd.prog) Tryd.underlying46 Tryd.underlying5 Tryd.underlying9 (Kd.own_of_R HO103.out)))
    go_ret
    exact ⟨by first | rfl | (simp [errW_none, errW_some] <;> rfl) | (simp [*, errW_none, errW_some] <;> rfl), by repeat (first | (with_reducible first | exact HB.out | apply below_alloc | apply pw_below_drewN | apply below_drew1) | exact HB.out)⟩
  · rw [if_neg c2] at H
    have c2b0 : decide (a0 < 10) = false := decide_eq_false c2
    clear c2
    replace H := Option.bind_eq_some_iff.mp H
    obtain ⟨t104, A60, H⟩ := H
    replace H : ((some (([(wrap64 (48 + (Int.tmod a0 10))) % 256] : List Int) : List Int)).bind fun y105 => (if t104.size + (strOfNums y105).size ≤ 9223372036854775807 then (some (t104 ++ (strOfNums y105))) else (none))) = some r := H
    have A6 := Aside0.mk A60
    clear A60
    obtain ⟨y105, hy105⟩ : ∃ y_ : List Int, y_ = (([(wrap64 (48 + (Int.tmod a0 10))) % 256] : List Int)) := ⟨_, rfl⟩
    replace H : (if t104.size + (strOfNums y105).size ≤ 9223372036854775807 then (some (t104 ++ (strOfNums y105))) else (none)) = some r := by first | (rw [hy105]; with_reducible exact H) | (have H2_ := (Option.bind_some _ _).symm.trans H; rw [hy105]; with_reducible exact H2_) | (have H2_ := (Option.bind_some _ _).symm.trans H; with_reducible exact H2_) | with_reducible exact H | (rw [hy105]; exact H) | exact H
    have Ny105 := Aside0.mk hy105
    clear hy105
    by_cases c7 : t104.size + (strOfNums y105).size ≤ 9223372036854775807
    · rw [if_pos c7] at H
      have c7b0 := eq_true c7
      have c7b1 : decide (t104.size + (strOfNums y105).size ≤ 9223372036854775807) = true := decide_eq_true c7
      try have c7b2 : (9223372036854775807 < t104.size + (strOfNums y105).size) = False := eq_false (Nat.not_lt.2 c7)
      obtain rfl := Option.some.inj H
      go_enter Tryd.func53, Tryd.ntmps53
      try go_wp2
      have n0_ := Aside0.mk (below_drew1 HB.out)
      clear HB
      have HB := n0_
      clear n0_
      refine start_ (n := 11) (S := fun w' => True) (ds := []) #[false, false, false, false, false, false, false, false, false, false, false] (by kernel_rfl) rfl rfl trivial (fun hHeld => ?_); refine with_tabW spec_l1Num.tab3 spec_l1Num.bits3 (fun HT_ HW_ => ?_)
      generalize w.drew = w8 at HB hHeld ⊢
      refine pure_ (i := 0) (N := some 10) (v := ?_) (a' := ?_) #[true, false, false, false, false, false, false, false, false, false, false] rfl rfl (any_of HT_.out (by kernel_rfl)) (fun _ _ _ h => h) (Or.inl ⟨by rfl, ?_⟩) ?_ ?_
      rotate_left
      · intro w'
        go_simp
        with_reducible rfl
      rotate_left
      · simp only [Act.put, List.setIfInBounds_toArray, List.set_cons_zero, List.set_cons_succ, i64_w, i32_w]
        rfl
      refine pure_ (i := 1) (N := some 11) (v := ?_) (a' := ?_) #[true, true, false, false, false, false, false, false, false, false, false] rfl rfl (any_of HT_.out (by kernel_rfl)) (fun _ _ _ h => h) (Or.inl ⟨by rfl, ?_⟩) ?_ ?_
      rotate_left
      · intro w'
        go_simp
        with_reducible rfl
      rotate_left
      · simp only [Act.put, List.setIfInBounds_toArray, List.set_cons_zero, List.set_cons_succ, i64_w, i32_w]
        rfl
      refine pure_ (i := 3) (N := some 13) (v := ?_) (a' := ?_) #[true, true, false, true, false, false, false, false, false, false, false] rfl rfl (any_of HT_.out (by kernel_rfl)) (fun _ _ _ h => h) (Or.inl ⟨by rfl, ?_⟩) ?_ ?_
      rotate_left
      · intro w'
        go_simp
        with_reducible rfl
      rotate_left
      · simp only [Act.put, List.setIfInBounds_toArray, List.set_cons_zero, List.set_cons_succ, i64_w, i32_w]
        rfl
      refine pure_ (i := 4) (N := some 14) (v := ?_) (a' := ?_) #[true, true, false, true, true, false, false, false, false, false, false] rfl rfl (any_of HT_.out (by kernel_rfl)) (fun _ _ _ h => h) (Or.inl ⟨by rfl, ?_⟩) ?_ ?_
      rotate_left
      · intro w'
        go_simp
        with_reducible rfl
      rotate_left
      · simp only [Act.put, List.setIfInBounds_toArray, List.set_cons_zero, List.set_cons_succ, i64_w, i32_w]
        rfl
      refine pure_ (i := 5) (N := some 15) (v := ?_) (a' := ?_) #[true, true, false, true, true, true, false, false, false, false, false] rfl rfl (any_of HT_.out (by kernel_rfl)) (fun _ _ _ h => h) (Or.inl ⟨by rfl, ?_⟩) ?_ ?_
      rotate_left
      · intro w'
        go_simp
        with_reducible rfl
      rotate_left
      · simp only [Act.put, List.setIfInBounds_toArray, List.set_cons_zero, List.set_cons_succ, i64_w, i32_w]
        rfl
      refine pure_ (i := 6) (N := some 16) (v := ?_) (a' := ?_) #[true, true, false, true, true, true, true, false, false, false, false] rfl rfl (any_of HT_.out (by kernel_rfl)) (fun _ _ _ h => h) (Or.inl ⟨by rfl, ?_⟩) ?_ ?_
      rotate_left
      · intro w'
        go_simp
        with_reducible rfl
      rotate_left
      · simp only [Act.put, List.setIfInBounds_toArray, List.set_cons_zero, List.set_cons_succ, i64_w, i32_w]
        rfl
      refine join_ (σ := Value) 2 #[true, true, true, true, true, true, true, true, true, false, false] (fun s_ => [(12, .string t104), (17, s_), (18, .string (strOfNums y105))]) (fun s_ w' => (Kd.R (Kd.int .u8) 5 w' w.heap.size (fun _ => True) s_ y105) ∧ (Below w.heap.size w w')) ?_ ?_
      rotate_left
      · intro hCont
        refine two_ (i := 2) (j := 7) (Ni := some 12) (Nj := some 17) #[true, true, true, true, true, true, true, false, false, false, false] #[true, true, false, true, true, true, true, true, false, false, false] rfl rfl rfl rfl (two_of HT_.out (by kernel_rfl)) (by decide) (by decide) (fun K hK => ?_) (fun K hK => ?_)
        · skip
          refine goes_ Tryd.func53 (by kernel_rfl) rfl #[.int .i64 (wrap64 (Int.tdiv a0 10))] (by rfl) rfl rfl (by (try simp only [List.map_toArray, List.map_cons, List.map_nil]); first | done | rfl | (simp only [List.length_drop, List.length_take]; rfl)) ?_
          with_reducible refine (ih k (by omega) (wrap64 (Int.tdiv a0 10)) t104 _ A6.out).mono ?_
          rintro e w9 ⟨rfl, hb⟩
          refine ⟨_, rfl, ?_⟩
          have n0_ := Aside0.mk (below_step (by repeat (first | (with_reducible first | exact HB.out | apply below_alloc | apply pw_below_drewN | apply below_drew1) | exact HB.out)) hb)
          clear HB
          have HB := n0_
          clear n0_
          (try clear hb)
          (try clear hb2)
          (try clear hk)
          (try clear hi)
          refine hK.out _ _ trivial (fun hHeld => ?_)
          clear hK K
          refine norm_ (a' := ?_) ?_ ?_
          rotate_left
          · show Act.put _ (some 12) _ = _
            simp only [Act.put, List.setIfInBounds_toArray, List.set_cons_zero, List.set_cons_succ, i64_w, i32_w]
            rfl
          refine one_ (i := 7) (N := some 17) #[true, true, true, true, true, true, true, true, false, false, false] rfl rfl (one_of HT_.out (by kernel_rfl)) (by decide) (fun K hK => ?_)
          refine Kd.R_lit_step (Kd.int .u8) _ 5 ?hg (N := 17) ?hd (xs := ([(wrap64 (48 + (Int.tmod a0 10))) % 256] : List Int)) (inner := [.int .u8 ((wrap64 (48 + (Int.tmod a0 10))) % 256)]) (ok := fun _ => True) (okp := fun _ => True) ?hr ?hp (fun _ hk => hk) trivial (Below.refl _ _) (Nat.le_refl _) (by simp) ?_; (case hd => rfl); (case hg => rfl); (case hr => first | (go_simp; done) | (go_simp; rfl)); (case hp => exact (Reps.one (show Kd.M (Kd.int .u8) _ _ _ ((wrap64 (48 + (Int.tmod a0 10))) % 256) [.int .u8 ((wrap64 (48 + (Int.tmod a0 10))) % 256)] from rfl) (Reps.none _ _)))
          intro v106 w10 ho11 hb hg_ hnew_
          clear hg_ hnew_
          (first | rw [← Ny105.out] at ho11 | (simp only [Int.reduceToNat] at ho11; rw [← Ny105.out] at ho11))
          have n0_ := Aside0.mk (Kd.R_lower ho11 (below_size (by repeat (first | (with_reducible first | exact HB.out | apply below_alloc | apply pw_below_drewN | apply below_drew1) | exact HB.out))))
          have n1_ := Aside0.mk (below_step (by repeat (first | (with_reducible first | exact HB.out | apply below_alloc | apply pw_below_drewN | apply below_drew1) | exact HB.out)) hb)
          clear HB
          have HO107 := n0_
          have HB := n1_
          clear n0_ n1_
          clear hb ho11
          refine hK.out _ _ trivial (fun hHeld => ?_)
          clear hK K
          refine norm_ (a' := ?_) ?_ ?_
          rotate_left
          · show Act.put _ (some 17) _ = _
            simp only [Act.put, List.setIfInBounds_toArray, List.set_cons_zero, List.set_cons_succ, i64_w, i32_w]
            rfl
          refine one_ (i := 8) (N := some 18) #[true, true, true, true, true, true, true, true, true, false, false] rfl rfl (one_of HT_.out (by kernel_rfl)) (by decide) (fun K hK => ?_)
          have hcv12 := own_string (P := Tryd.prog) Tryd.underlying46 Tryd.underlying5 Tryd.underlying9 (Kd.own_of_R HO107.out)
          refine value_ (w1 := ?_) (v := ?_) (by rfl) rfl ?_ ?_
          rotate_left 2
          · go_simp
            constructor
            · rfl
            · rfl
          clear hcv12
          refine hK.out _ _ trivial (fun hHeld => ?_)
          clear hK K
          refine norm_ (a' := ?_) ?_ ?_
          rotate_left
          · show Act.put _ (some 18) _ = _
            simp only [Act.put, List.setIfInBounds_toArray, List.set_cons_zero, List.set_cons_succ, i64_w, i32_w]
            rfl
          exact norm_ (by simp only [putAll, Act.put, List.setIfInBounds_toArray, List.set_cons_zero, List.set_cons_succ]) (hCont (v106) _ ⟨(by (with_reducible repeat (first | apply Kd.R_alloc | apply Kd.R_drewN | apply Kd.R_drew)); exact HO107.out), (by repeat (first | (with_reducible first | exact HB.out | apply below_alloc | apply pw_below_drewN | apply below_drew1) | exact HB.out))⟩)
        · skip
          refine Kd.R_lit_step (Kd.int .u8) _ 5 ?hg (N := 17) ?hd (xs := ([(wrap64 (48 + (Int.tmod a0 10))) % 256] : List Int)) (inner := [.int .u8 ((wrap64 (48 + (Int.tmod a0 10))) % 256)]) (ok := fun _ => True) (okp := fun _ => True) ?hr ?hp (fun _ hk => hk) trivial (Below.refl _ _) (Nat.le_refl _) (by simp) ?_; (case hd => rfl); (case hg => rfl); (case hr => first | (go_simp; done) | (go_simp; rfl)); (case hp => exact (Reps.one (show Kd.M (Kd.int .u8) _ _ _ ((wrap64 (48 + (Int.tmod a0 10))) % 256) [.int .u8 ((wrap64 (48 + (Int.tmod a0 10))) % 256)] from rfl) (Reps.none _ _)))
          intro v106 w9 ho10 hb hg_ hnew_
          clear hg_ hnew_
          (first | rw [← Ny105.out] at ho10 | (simp only [Int.reduceToNat] at ho10; rw [← Ny105.out] at ho10))
          have n0_ := Aside0.mk (Kd.R_lower ho10 (below_size (by repeat (first | (with_reducible first | exact HB.out | apply below_alloc | apply pw_below_drewN | apply below_drew1) | exact HB.out))))
          have n1_ := Aside0.mk (below_step (by repeat (first | (with_reducible first | exact HB.out | apply below_alloc | apply pw_below_drewN | apply below_drew1) | exact HB.out)) hb)
          clear HB
          have HO107 := n0_
          have HB := n1_
          clear n0_ n1_
          clear hb ho10
          refine hK.out _ _ trivial (fun hHeld => ?_)
          clear hK K
          refine norm_ (a' := ?_) ?_ ?_
          rotate_left
          · show Act.put _ (some 17) _ = _
            simp only [Act.put, List.setIfInBounds_toArray, List.set_cons_zero, List.set_cons_succ, i64_w, i32_w]
            rfl
          refine two_ (i := 2) (j := 8) (Ni := some 12) (Nj := some 18) #[true, true, true, true, true, true, true, true, false, false, false] #[true, true, false, true, true, true, true, true, true, false, false] rfl rfl rfl rfl (two_of HT_.out (by kernel_rfl)) (by decide) (by decide) (fun K hK => ?_) (fun K hK => ?_)
          · skip
            refine goes_ Tryd.func53 (by kernel_rfl) rfl #[.int .i64 (wrap64 (Int.tdiv a0 10))] (by rfl) rfl rfl (by (try simp only [List.map_toArray, List.map_cons, List.map_nil]); first | done | rfl | (simp only [List.length_drop, List.length_take]; rfl)) ?_
            with_reducible refine (ih k (by omega) (wrap64 (Int.tdiv a0 10)) t104 _ A6.out).mono ?_
            rintro e w11 ⟨rfl, hb⟩
            refine ⟨_, rfl, ?_⟩
            have n0_ := Aside0.mk (Kd.R_below (by (with_reducible repeat (first | apply Kd.R_alloc | apply Kd.R_drewN | apply Kd.R_drew)); exact HO107.out) hb)
            have n1_ := Aside0.mk (below_step (by repeat (first | (with_reducible first | exact HB.out | apply below_alloc | apply pw_below_drewN | apply below_drew1) | exact HB.out)) hb)
            clear HO107
            clear HB
            have HO107 := n0_
            have HB := n1_
            clear n0_ n1_
            (try clear hb)
            (try clear hb2)
            (try clear hk)
            (try clear hi)
            refine hK.out _ _ trivial (fun hHeld => ?_)
            clear hK K
            refine norm_ (a' := ?_) ?_ ?_
            rotate_left
            · show Act.put _ (some 12) _ = _
              simp only [Act.put, List.setIfInBounds_toArray, List.set_cons_zero, List.set_cons_succ, i64_w, i32_w]
              rfl
            refine one_ (i := 8) (N := some 18) #[true, true, true, true, true, true, true, true, true, false, false] rfl rfl (one_of HT_.out (by kernel_rfl)) (by decide) (fun K hK => ?_)
            have hcv12 := own_string (P := Tryd.prog) Tryd.underlying46 Tryd.underlying5 Tryd.underlying9 (Kd.own_of_R HO107.out)
            refine value_ (w1 := ?_) (v := ?_) (by rfl) rfl ?_ ?_
            rotate_left 2
            · go_simp
              constructor
              · rfl
              · rfl
            clear hcv12
            refine hK.out _ _ trivial (fun hHeld => ?_)
            clear hK K
            refine norm_ (a' := ?_) ?_ ?_
            rotate_left
            · show Act.put _ (some 18) _ = _
              simp only [Act.put, List.setIfInBounds_toArray, List.set_cons_zero, List.set_cons_succ, i64_w, i32_w]
              rfl
            exact norm_ (by simp only [putAll, Act.put, List.setIfInBounds_toArray, List.set_cons_zero, List.set_cons_succ]) (hCont (v106) _ ⟨(by (with_reducible repeat (first | apply Kd.R_alloc | apply Kd.R_drewN | apply Kd.R_drew)); exact HO107.out), (by repeat (first | (with_reducible first | exact HB.out | apply below_alloc | apply pw_below_drewN | apply below_drew1) | exact HB.out))⟩)
          · skip
            have hcv11 := own_string (P := Tryd.prog) Tryd.underlying46 Tryd.underlying5 Tryd.underlying9 (Kd.own_of_R HO107.out)
            refine value_ (w1 := ?_) (v := ?_) (by rfl) rfl ?_ ?_
            rotate_left 2
            · go_simp
              constructor
              · rfl
              · rfl
            clear hcv11
            refine hK.out _ _ trivial (fun hHeld => ?_)
            clear hK K
            refine norm_ (a' := ?_) ?_ ?_
            rotate_left
            · show Act.put _ (some 18) _ = _
              simp only [Act.put, List.setIfInBounds_toArray, List.set_cons_zero, List.set_cons_succ, i64_w, i32_w]
              rfl
            refine one_ (i := 2) (N := some 12) #[true, true, true, true, true, true, true, true, true, false, false] rfl rfl (one_of HT_.out (by kernel_rfl)) (by decide) (fun K hK => ?_)
            refine goes_ Tryd.func53 (by kernel_rfl) rfl #[.int .i64 (wrap64 (Int.tdiv a0 10))] (by rfl) rfl rfl (by (try simp only [List.map_toArray, List.map_cons, List.map_nil]); first | done | rfl | (simp only [List.length_drop, List.length_take]; rfl)) ?_
            with_reducible refine (ih k (by omega) (wrap64 (Int.tdiv a0 10)) t104 _ A6.out).mono ?_
            rintro e w12 ⟨rfl, hb⟩
            refine ⟨_, rfl, ?_⟩
            have n0_ := Aside0.mk (Kd.R_below (by (with_reducible repeat (first | apply Kd.R_alloc | apply Kd.R_drewN | apply Kd.R_drew)); exact HO107.out) hb)
            have n1_ := Aside0.mk (below_step (by repeat (first | (with_reducible first | exact HB.out | apply below_alloc | apply pw_below_drewN | apply below_drew1) | exact HB.out)) hb)
            clear HO107
            clear HB
            have HO107 := n0_
            have HB := n1_
            clear n0_ n1_
            (try clear hb)
            (try clear hb2)
            (try clear hk)
            (try clear hi)
            refine hK.out _ _ trivial (fun hHeld => ?_)
            clear hK K
            refine norm_ (a' := ?_) ?_ ?_
            rotate_left
            · show Act.put _ (some 12) _ = _
              simp only [Act.put, List.setIfInBounds_toArray, List.set_cons_zero, List.set_cons_succ, i64_w, i32_w]
              rfl
            exact norm_ (by simp only [putAll, Act.put, List.setIfInBounds_toArray, List.set_cons_zero, List.set_cons_succ]) (hCont (v106) _ ⟨(by (with_reducible repeat (first | apply Kd.R_alloc | apply Kd.R_drewN | apply Kd.R_drew)); exact HO107.out), (by repeat (first | (with_reducible first | exact HB.out | apply below_alloc | apply pw_below_drewN | apply below_drew1) | exact HB.out))⟩)
      rintro v106 w13 ⟨h0_, h1_⟩
      have n0_ : Aside0 (Kd.R (Kd.int .u8) 5 w13 w.heap.size (fun _ => True) v106 y105) := ⟨h0_⟩
      have n1_ : Aside0 (Below w.heap.size w w13) := ⟨h1_⟩
      clear HB
      clear h0_ h1_
      have HO107 := n0_
      have HB := n1_
      clear n0_ n1_
      have hHeld := trivial
      refine norm_ (a' := ?_) ?_ ?_
      rotate_left
      · simp only [putAll, Act.put, List.setIfInBounds_toArray, List.set_cons_zero, List.set_cons_succ]
        rfl
      refine pure_ (i := 9) (N := some 19) (v := ?_) (a' := ?_) #[true, true, true, true, true, true, true, true, true, true, false] rfl rfl (any_of HT_.out (by kernel_rfl)) (fun _ _ _ h => h) (Or.inl ⟨by rfl, ?_⟩) ?_ ?_
      rotate_left
      · intro w'
        go_simp
        with_reducible rfl
      rotate_left
      · simp only [Act.put, List.setIfInBounds_toArray, List.set_cons_zero, List.set_cons_succ, i64_w, i32_w]
        rfl
      refine pure_ (i := 10) (N := some 2) (v := ?_) (a' := ?_) #[true, true, true, true, true, true, true, true, true, true, true] rfl rfl (any_of HT_.out (by kernel_rfl)) (fun _ _ _ h => h) (Or.inl ⟨by rfl, ?_⟩) ?_ ?_
      rotate_left
      · intro w'
        go_simp
        with_reducible rfl
      rotate_left
      · simp only [Act.put, List.setIfInBounds_toArray, List.set_cons_zero, List.set_cons_succ, i64_w, i32_w]
        rfl
      refine done_ (done_of HT_.out (by kernel_rfl)) ?_
      try go_wp2
      go_ret
      exact ⟨by first | rfl | (simp [errW_none, errW_some] <;> rfl) | (simp [*, errW_none, errW_some] <;> rfl), by repeat (first | (with_reducible first | exact HB.out | apply below_alloc | apply pw_below_drewN | apply below_drew1) | exact HB.out)⟩
    · rw [if_neg c7] at H
      exact absurd H (by simp)

end Go.Proofs.YtpdcjkiejglaiaaDoor.Q

/- Laid by a program of this session (wip/tools/own_print.py) over the translation of this seat: contracts of the functions that the statement reaches. -/
namespace Go.Proofs.YtpdcjkiejglaiaaDoor.Q
open Go.RowKit Go.Proofs.YtpdcjkiejglaiaaDoorW.PrintWords Go.Proofs.YtpdcjkiejglaiaaDoorW.PrintLast Go.Proofs.YtpdcjkiejglaiaaDoorW.PrintMore
attribute [local go_sem] max2_int min2_int max_two min_two max_three min_three max_four min_four   -- for this text's walks alone
set_option linter.unusedVariables false
set_option linter.unusedSimpArgs false

/-! ### spec_miAll: function 32 -/
def spec_miAll.l0 : Nat → Int → Int → Option (Int)
  | 0, _, _ => none
  | k + 1, x0, x3 => if x0 > 0 then (spec_miAll.l0 k (wrap64 (x0 - 1)) (wrap64 (x3 * 10))) else (some x3)
def spec_miAll.f (k : Nat) (a0 : Int) : Option (Int) := spec_miAll.l0 k a0 1
theorem spec_miAll.mono_l : ∀ k, (∀ y0 y1, LeO (spec_miAll.l0 k y0 y1) (spec_miAll.l0 (k + 1) y0 y1))
  | 0 => fun _ _ r h => by simp [spec_miAll.l0] at h
  | k + 1 => by
    have ih0 := spec_miAll.mono_l k
    · intro y0 y1
      unfold spec_miAll.l0
      repeat' first
      | (with_reducible exact ih0 _ _)
      | (with_reducible exact LeO.refl _)
      | (with_reducible exact LeO.none _)
      | (with_reducible refine LeO.ite ?_ ?_)
      | (with_reducible refine LeO.bind ?_ (fun _ => ?_))
      | exact ih0 _ _
      | exact LeO.none _
      | refine LeO.ite ?_ ?_
      | refine LeO.bind ?_ (fun _ => ?_)
theorem spec_miAll.mono : ∀ a0 k, LeO (spec_miAll.f k a0) (spec_miAll.f (k + 1) a0) := by
  intro a0 k
  have ih0 := spec_miAll.mono_l k
  unfold spec_miAll.f
  repeat' first
      | (with_reducible exact ih0 _ _)
      | (with_reducible exact LeO.refl _)
      | (with_reducible exact LeO.none _)
      | (with_reducible refine LeO.ite ?_ ?_)
      | (with_reducible refine LeO.bind ?_ (fun _ => ?_))
      | exact ih0 _ _
      | exact LeO.none _
      | refine LeO.ite ?_ ?_
      | refine LeO.bind ?_ (fun _ => ?_)
set_option maxHeartbeats 8000000 in
set_option maxRecDepth 100000 in
theorem spec_miAll.calls (k : Nat) (a0 : Int) (r : Int) (w : World) (h : spec_miAll.f k a0 = some r) :
    Calls Tryd.prog 32 #[.int .i64 a0] w fun e w' => e = .returned (.int .i64 r) ∧ Drawn0 w w' := by
  have H : (spec_miAll.l0 k a0 1) = some r := h
  clear h
  have H' := Aside0.mk H
  clear H
  go_enter Tryd.func32, Tryd.ntmps32
  go_wp2
  go_loopg [0, 3] k (fun kq v0 v3 w' => ∃ (x0_1 : Int) (x3_1 : Int), v0 = .int .i64 x0_1 ∧ v3 = .int .i64 x3_1 ∧ Aside0 (spec_miAll.l0 kq x0_1 x3_1 = some r) ∧ Aside0 (kq ≤ k) ∧ Drawn0 w w')
  case atStart => exact ⟨(a0), (1), (by first | rfl | (simp; done) | (simp [*]; done)), (by first | rfl | (simp; done) | (simp [*]; done)), H', ⟨Nat.le_refl _⟩, by repeat (first | exact Drawn0.refl _ | apply Drawn0.step)⟩
  case round =>
    clear H'
    obtain ⟨x0_1, x3_1, rfl, rfl, HA, HK1, ⟨m1, rfl⟩⟩ := hrel
    cases gk with
    | zero => exact absurd HA.out (by simp [spec_miAll.l0])
    | succ k1 =>
      have H := HA.out
      clear HA
      simp only [spec_miAll.l0] at H
      by_cases c2 : x0_1 > 0
      · rw [if_pos c2] at H
        have c2b0 : decide (0 < x0_1) = true := decide_eq_true c2
        clear c2
        have H' := Aside0.mk H
        clear H
        go_wp2
        go_roundg k1
        case measure => have := HK1.out; omega
        case rel => exact ⟨(wrap64 (x0_1 - 1)), (wrap64 (x3_1 * 10)), (by first | rfl | (simp; done) | (simp [*]; done)), (by first | rfl | (simp; done) | (simp [*]; done)), H', ⟨by have := HK1.out; omega⟩, by repeat (first | exact Drawn0.refl _ | apply Drawn0.step)⟩
      · rw [if_neg c2] at H
        have c2b0 : decide (0 < x0_1) = false := decide_eq_false c2
        clear c2
        obtain rfl := Option.some.inj H
        go_wp2
        go_ret
        exact ⟨by first | rfl | (simp; done) | (simp [*]; done), by repeat (first | exact Drawn0.refl _ | apply Drawn0.step)⟩

end Go.Proofs.YtpdcjkiejglaiaaDoor.Q

/- Laid by a program of this session (wip/tools/own_print.py) over the translation of this seat: contracts of the functions that the statement reaches. -/
namespace Go.Proofs.YtpdcjkiejglaiaaDoor.Q
open Go.RowKit Go.Proofs.YtpdcjkiejglaiaaDoorW.PrintWords Go.Proofs.YtpdcjkiejglaiaaDoorW.PrintLast Go.Proofs.YtpdcjkiejglaiaaDoorW.PrintMore
attribute [local go_sem] max2_int min2_int max_two min_two max_three min_three max_four min_four   -- for this text's walks alone
set_option linter.unusedVariables false
set_option linter.unusedSimpArgs false

/-! ### spec_tkNumber: function 50 -/
def spec_tkNumber.l0 : Nat → ByteArray → Int → Int → Option (Int)
  | 0, _, _, _ => none
  | k + 1, x0, x3, x4 => if x4 < (x0.size : Int) then (if 0 ≤ x4 then (spec_tkNumber.l0 k x0 (wrap64 ((wrap64 (x3 * 10)) + (((bt x0 x4) - 48) % 256))) (wrap64 (x4 + 1))) else (none)) else (some x3)
def spec_tkNumber.f (k : Nat) (a0 : ByteArray) : Option (Int) := spec_tkNumber.l0 k a0 0 0
theorem spec_tkNumber.mono_l : ∀ k, (∀ y0 y1 y2, LeO (spec_tkNumber.l0 k y0 y1 y2) (spec_tkNumber.l0 (k + 1) y0 y1 y2))
  | 0 => fun _ _ _ r h => by simp [spec_tkNumber.l0] at h
  | k + 1 => by
    have ih0 := spec_tkNumber.mono_l k
    · intro y0 y1 y2
      unfold spec_tkNumber.l0
      repeat' first
      | (with_reducible exact ih0 _ _ _)
      | (with_reducible exact LeO.refl _)
      | (with_reducible exact LeO.none _)
      | (with_reducible refine LeO.ite ?_ ?_)
      | (with_reducible refine LeO.bind ?_ (fun _ => ?_))
      | exact ih0 _ _ _
      | exact LeO.none _
      | refine LeO.ite ?_ ?_
      | refine LeO.bind ?_ (fun _ => ?_)
theorem spec_tkNumber.mono : ∀ a0 k, LeO (spec_tkNumber.f k a0) (spec_tkNumber.f (k + 1) a0) := by
  intro a0 k
  have ih0 := spec_tkNumber.mono_l k
  unfold spec_tkNumber.f
  repeat' first
      | (with_reducible exact ih0 _ _ _)
      | (with_reducible exact LeO.refl _)
      | (with_reducible exact LeO.none _)
      | (with_reducible refine LeO.ite ?_ ?_)
      | (with_reducible refine LeO.bind ?_ (fun _ => ?_))
      | exact ih0 _ _ _
      | exact LeO.none _
      | refine LeO.ite ?_ ?_
      | refine LeO.bind ?_ (fun _ => ?_)
set_option maxHeartbeats 8000000 in
set_option maxRecDepth 100000 in
theorem spec_tkNumber.calls (k : Nat) (a0 : ByteArray) (r : Int) (w : World) (h : spec_tkNumber.f k a0 = some r) :
    Calls Tryd.prog 50 #[.string a0] w fun e w' => e = .returned (.int .i64 r) ∧ Drawn0 w w' := by
  have H : (spec_tkNumber.l0 k a0 0 0) = some r := h
  clear h
  have H' := Aside0.mk H
  clear H
  go_enter Tryd.func50, Tryd.ntmps50
  go_wp2
  go_loopg [3, 4] k (fun kq v3 v4 w' => ∃ (x3_1 : Int) (x4_1 : Int), v3 = .int .i64 x3_1 ∧ v4 = .int .i64 x4_1 ∧ Aside0 (spec_tkNumber.l0 kq a0 x3_1 x4_1 = some r) ∧ Aside0 (kq ≤ k) ∧ Drawn0 w w')
  case atStart => exact ⟨(0), (0), (by first | rfl | (simp; done) | (simp [*]; done)), (by first | rfl | (simp; done) | (simp [*]; done)), H', ⟨Nat.le_refl _⟩, by repeat (first | exact Drawn0.refl _ | apply Drawn0.step)⟩
  case round =>
    clear H'
    obtain ⟨x3_1, x4_1, rfl, rfl, HA, HK1, ⟨m1, rfl⟩⟩ := hrel
    cases gk with
    | zero => exact absurd HA.out (by simp [spec_tkNumber.l0])
    | succ k1 =>
      have H := HA.out
      clear HA
      simp only [spec_tkNumber.l0] at H
      by_cases c2 : x4_1 < (a0.size : Int)
      · rw [if_pos c2] at H
        have c2b0 : decide (x4_1 < (a0.size : Int)) = true := decide_eq_true c2
        clear c2
        by_cases c3 : 0 ≤ x4_1
        · rw [if_pos c3] at H
          have c3b0 : decide (0 ≤ x4_1) = true := decide_eq_true c3
          clear c3
          have H' := Aside0.mk H
          clear H
          have p4 : 0 ≤ (x4_1 : Int) := of_decide_eq_true (by first | (with_reducible assumption) | assumption)
          have q4 : x4_1 < (a0.size : Int) := of_decide_eq_true (by first | (with_reducible assumption) | assumption)
          have hx4 := bt_at a0 x4_1
          replace p4 := eq_true p4
          replace q4 := eq_true q4
          go_wp2
          go_roundg k1
          case measure => have := HK1.out; omega
          case rel => exact ⟨(wrap64 ((wrap64 (x3_1 * 10)) + (((bt a0 x4_1) - 48) % 256))), (wrap64 (x4_1 + 1)), (by first | rfl | (simp; done) | (simp [*]; done)), (by first | rfl | (simp; done) | (simp [*]; done)), H', ⟨by have := HK1.out; omega⟩, by repeat (first | exact Drawn0.refl _ | apply Drawn0.step)⟩
        · rw [if_neg c3] at H
          exact absurd H (by simp)
      · rw [if_neg c2] at H
        have c2b0 : decide (x4_1 < (a0.size : Int)) = false := decide_eq_false c2
        clear c2
        obtain rfl := Option.some.inj H
        go_wp2
        go_ret
        exact ⟨by first | rfl | (simp; done) | (simp [*]; done), by repeat (first | exact Drawn0.refl _ | apply Drawn0.step)⟩

end Go.Proofs.YtpdcjkiejglaiaaDoor.Q

/- Laid by a program of this session (wip/tools/own_print.py) over the translation of this seat: contracts of the functions that the statement reaches. -/
namespace Go.Proofs.YtpdcjkiejglaiaaDoor.Q
open Go.RowKit Go.Proofs.YtpdcjkiejglaiaaDoorW.PrintWords Go.Proofs.YtpdcjkiejglaiaaDoorW.PrintLast Go.Proofs.YtpdcjkiejglaiaaDoorW.PrintMore
attribute [local go_sem] max2_int min2_int max_two min_two max_three min_three max_four min_four   -- for this text's walks alone
set_option linter.unusedVariables false
set_option linter.unusedSimpArgs false

/-! ### spec_miTo: function 31 -/
def spec_miTo.f (k : Nat) (a0 : ByteArray) (a1 : ByteArray) : Option (Int) := (spec_miAll.f k (a0.size : Int)).bind fun t101 => ((spec_tkNumber.f k a1).bind fun t102 => ((spec_tkNumber.f k a0).bind fun t103 => (if t101 = 0 then (none) else (some (Int.tmod (wrap64 ((wrap64 (t102 - t103)) + t101)) t101)))))
theorem spec_miTo.mono : ∀ a0 a1 k, LeO (spec_miTo.f k a0 a1) (spec_miTo.f (k + 1) a0 a1) := by
  intro a0 a1 k
  unfold spec_miTo.f
  repeat' first
      | (with_reducible exact spec_miAll.mono _ _)
      | (with_reducible exact spec_tkNumber.mono _ _)
      | (with_reducible exact LeO.refl _)
      | (with_reducible exact LeO.none _)
      | (with_reducible refine LeO.ite ?_ ?_)
      | (with_reducible refine LeO.bind ?_ (fun _ => ?_))
      | exact spec_miAll.mono _ _
      | exact spec_tkNumber.mono _ _
      | exact LeO.none _
      | refine LeO.ite ?_ ?_
      | refine LeO.bind ?_ (fun _ => ?_)
set_option maxHeartbeats 8000000 in
set_option maxRecDepth 100000 in
theorem spec_miTo.calls (k : Nat) (a0 : ByteArray) (a1 : ByteArray) (r : Int) (w : World) (h : spec_miTo.f k a0 a1 = some r) :
    Calls Tryd.prog 31 #[.string a0, .string a1] w fun e w' => e = .returned (.int .i64 r) ∧ Drawn0 w w' := by
  have H : ((spec_miAll.f k (a0.size : Int)).bind fun t101 => ((spec_tkNumber.f k a1).bind fun t102 => ((spec_tkNumber.f k a0).bind fun t103 => (if t101 = 0 then (none) else (some (Int.tmod (wrap64 ((wrap64 (t102 - t103)) + t101)) t101)))))) = some r := h
  clear h
  replace H := Option.bind_eq_some_iff.mp H
  obtain ⟨t101, A30, H⟩ := H
  replace H : ((spec_tkNumber.f k a1).bind fun t102 => ((spec_tkNumber.f k a0).bind fun t103 => (if t101 = 0 then (none) else (some (Int.tmod (wrap64 ((wrap64 (t102 - t103)) + t101)) t101))))) = some r := H
  have A3 := Aside0.mk A30
  clear A30
  replace H := Option.bind_eq_some_iff.mp H
  obtain ⟨t102, A40, H⟩ := H
  replace H : ((spec_tkNumber.f k a0).bind fun t103 => (if t101 = 0 then (none) else (some (Int.tmod (wrap64 ((wrap64 (t102 - t103)) + t101)) t101)))) = some r := H
  have A4 := Aside0.mk A40
  clear A40
  replace H := Option.bind_eq_some_iff.mp H
  obtain ⟨t103, A50, H⟩ := H
  replace H : (if t101 = 0 then (none) else (some (Int.tmod (wrap64 ((wrap64 (t102 - t103)) + t101)) t101))) = some r := H
  have A5 := Aside0.mk A50
  clear A50
  by_cases c6 : t101 = 0
  · rw [if_pos c6] at H
    exact absurd H (by simp)
  · rw [if_neg c6] at H
    have c6b0 : (t101 == 0) = false := beq_eq_false_iff_ne.mpr c6
    have c6b1 : (t101 != 0) = true := bne_iff_ne.mpr c6
    obtain rfl := Option.some.inj H
    go_enter Tryd.func31, Tryd.ntmps31
    go_wp2_with (first | ((with_reducible refine gate_callee (f := 32) rfl ?_); refine goesL_ (some 8) rfl rfl Tryd.func32 (by kernel_rfl) rfl #[.int .i64 (a0.size : Int)] rfl (by (try simp only [List.map_toArray, List.map_cons, List.map_nil]); first | done | rfl | (simp only [List.length_drop, List.length_take]; rfl)) ?_; (with_reducible refine (spec_miAll.calls k (a0.size : Int) t101 _ A3.out).mono ?_); rintro e w' ⟨rfl, ⟨nd, rfl⟩⟩; refine ⟨_, rfl, ?_⟩) | ((with_reducible refine gate_callee (f := 50) rfl ?_); refine goesL_ (some 10) rfl rfl Tryd.func50 (by kernel_rfl) rfl #[.string a1] rfl (by (try simp only [List.map_toArray, List.map_cons, List.map_nil]); first | done | rfl | (simp only [List.length_drop, List.length_take]; rfl)) ?_; (with_reducible refine (spec_tkNumber.calls k a1 t102 _ A4.out).mono ?_); rintro e w' ⟨rfl, ⟨nd, rfl⟩⟩; refine ⟨_, rfl, ?_⟩) | ((with_reducible refine gate_callee (f := 50) rfl ?_); refine goesL_ (some 12) rfl rfl Tryd.func50 (by kernel_rfl) rfl #[.string a0] rfl (by (try simp only [List.map_toArray, List.map_cons, List.map_nil]); first | done | rfl | (simp only [List.length_drop, List.length_take]; rfl)) ?_; (with_reducible refine (spec_tkNumber.calls k a0 t103 _ A5.out).mono ?_); rintro e w' ⟨rfl, ⟨nd, rfl⟩⟩; refine ⟨_, rfl, ?_⟩))
    go_ret
    exact ⟨by first | rfl | (simp; done) | (simp [*]; done), by repeat (first | exact Drawn0.refl _ | apply Drawn0.step)⟩

end Go.Proofs.YtpdcjkiejglaiaaDoor.Q

/- Laid by a program of this session (wip/tools/own_print.py) over the translation of this seat: contracts of the functions that the statement reaches. -/
namespace Go.Proofs.YtpdcjkiejglaiaaDoor.Q
open Go.RowKit Go.Proofs.YtpdcjkiejglaiaaDoorW.PrintWords Go.Proofs.YtpdcjkiejglaiaaDoorW.PrintLast Go.Proofs.YtpdcjkiejglaiaaDoorW.PrintMore
attribute [local go_sem] max2_int min2_int max_two min_two max_three min_three max_four min_four   -- for this text's walks alone
set_option linter.unusedVariables false
set_option linter.unusedSimpArgs false

/-! ### impl_numberOf: function 22 -/
def impl_numberOf.l0 : Nat → ByteArray → Int → Int → Int → Option (Int)
  | 0, _, _, _, _ => none
  | k + 1, x0, x3, x6, x7 => if x7 < x6 then (if 0 ≤ x7 then (if x7 < (x0.size : Int) then (impl_numberOf.l0 k x0 (wrap64 ((wrap64 (10 * x3)) + (((bt x0 x7) - 48) % 256))) x6 (wrap64 (x7 + 1))) else (none)) else (none)) else (some x3)
def impl_numberOf.f (k : Nat) (a0 : ByteArray) : Option (Int) := impl_numberOf.l0 k a0 0 (a0.size : Int) 0
theorem impl_numberOf.mono_l : ∀ k, (∀ y0 y1 y2 y3, LeO (impl_numberOf.l0 k y0 y1 y2 y3) (impl_numberOf.l0 (k + 1) y0 y1 y2 y3))
  | 0 => fun _ _ _ _ r h => by simp [impl_numberOf.l0] at h
  | k + 1 => by
    have ih0 := impl_numberOf.mono_l k
    · intro y0 y1 y2 y3
      unfold impl_numberOf.l0
      repeat' first
      | (with_reducible exact ih0 _ _ _ _)
      | (with_reducible exact LeO.refl _)
      | (with_reducible exact LeO.none _)
      | (with_reducible refine LeO.ite ?_ ?_)
      | (with_reducible refine LeO.bind ?_ (fun _ => ?_))
      | exact ih0 _ _ _ _
      | exact LeO.none _
      | refine LeO.ite ?_ ?_
      | refine LeO.bind ?_ (fun _ => ?_)
theorem impl_numberOf.mono : ∀ a0 k, LeO (impl_numberOf.f k a0) (impl_numberOf.f (k + 1) a0) := by
  intro a0 k
  have ih0 := impl_numberOf.mono_l k
  unfold impl_numberOf.f
  repeat' first
      | (with_reducible exact ih0 _ _ _ _)
      | (with_reducible exact LeO.refl _)
      | (with_reducible exact LeO.none _)
      | (with_reducible refine LeO.ite ?_ ?_)
      | (with_reducible refine LeO.bind ?_ (fun _ => ?_))
      | exact ih0 _ _ _ _
      | exact LeO.none _
      | refine LeO.ite ?_ ?_
      | refine LeO.bind ?_ (fun _ => ?_)
set_option maxHeartbeats 8000000 in
set_option maxRecDepth 100000 in
theorem impl_numberOf.calls (k : Nat) (a0 : ByteArray) (r : Int) (w : World) (h : impl_numberOf.f k a0 = some r) :
    Calls Tryd.prog 22 #[.string a0] w fun e w' => e = .returned (.int .i64 r) ∧ Drawn0 w w' := by
  have H : (impl_numberOf.l0 k a0 0 (a0.size : Int) 0) = some r := h
  clear h
  have H' := Aside0.mk H
  clear H
  go_enter Tryd.func22, Tryd.ntmps22
  go_wp2
  go_loopg [3, 7] k (fun kq v3 v7 w' => ∃ (x3_1 : Int) (x7_1 : Int), v3 = .int .i64 x3_1 ∧ v7 = .int .i64 x7_1 ∧ Aside0 (impl_numberOf.l0 kq a0 x3_1 (a0.size : Int) x7_1 = some r) ∧ Aside0 (kq ≤ k) ∧ Drawn0 w w')
  case atStart => exact ⟨(0), (0), (by first | rfl | (simp; done) | (simp [*]; done)), (by first | rfl | (simp; done) | (simp [*]; done)), H', ⟨Nat.le_refl _⟩, by repeat (first | exact Drawn0.refl _ | apply Drawn0.step)⟩
  case round =>
    clear H'
    obtain ⟨x3_1, x7_1, rfl, rfl, HA, HK1, ⟨m1, rfl⟩⟩ := hrel
    cases gk with
    | zero => exact absurd HA.out (by simp [impl_numberOf.l0])
    | succ k1 =>
      have H := HA.out
      clear HA
      simp only [impl_numberOf.l0] at H
      by_cases c2 : x7_1 < (a0.size : Int)
      · rw [if_pos c2] at H
        have c2b0 : decide (x7_1 < (a0.size : Int)) = true := decide_eq_true c2
        clear c2
        by_cases c3 : 0 ≤ x7_1
        · rw [if_pos c3] at H
          have c3b0 : decide (0 ≤ x7_1) = true := decide_eq_true c3
          clear c3
          by_cases c4 : x7_1 < (a0.size : Int)
          · rw [if_pos c4] at H
            have c4b0 : decide (x7_1 < (a0.size : Int)) = true := decide_eq_true c4
            clear c4
            have H' := Aside0.mk H
            clear H
            have p5 : 0 ≤ (x7_1 : Int) := of_decide_eq_true (by first | (with_reducible assumption) | assumption)
            have q5 : x7_1 < (a0.size : Int) := of_decide_eq_true (by first | (with_reducible assumption) | assumption)
            have hx5 := bt_at a0 x7_1
            replace p5 := eq_true p5
            replace q5 := eq_true q5
            go_wp2
            go_roundg k1
            case measure => have := HK1.out; omega
            case rel => exact ⟨(wrap64 ((wrap64 (10 * x3_1)) + (((bt a0 x7_1) - 48) % 256))), (wrap64 (x7_1 + 1)), (by first | rfl | (simp; done) | (simp [*]; done)), (by first | rfl | (simp; done) | (simp [*]; done)), H', ⟨by have := HK1.out; omega⟩, by repeat (first | exact Drawn0.refl _ | apply Drawn0.step)⟩
          · rw [if_neg c4] at H
            exact absurd H (by simp)
        · rw [if_neg c3] at H
          exact absurd H (by simp)
      · rw [if_neg c2] at H
        have c2b0 : decide (x7_1 < (a0.size : Int)) = false := decide_eq_false c2
        clear c2
        obtain rfl := Option.some.inj H
        go_wp2
        go_ret
        exact ⟨by first | rfl | (simp; done) | (simp [*]; done), by repeat (first | exact Drawn0.refl _ | apply Drawn0.step)⟩

end Go.Proofs.YtpdcjkiejglaiaaDoor.Q

/- Laid by a program of this session (wip/tools/own_print.py) over the translation of this seat: contracts of the functions that the statement reaches. -/
namespace Go.Proofs.YtpdcjkiejglaiaaDoor.Q
open Go.RowKit Go.Proofs.YtpdcjkiejglaiaaDoorW.PrintWords Go.Proofs.YtpdcjkiejglaiaaDoorW.PrintLast Go.Proofs.YtpdcjkiejglaiaaDoorW.PrintMore
attribute [local go_sem] max2_int min2_int max_two min_two max_three min_three max_four min_four   -- for this text's walks alone
set_option linter.unusedVariables false
set_option linter.unusedSimpArgs false

/-! ### impl_round: function 33 -/
def impl_round.l0 : Nat → Int → Int → Int → Option (Int)
  | 0, _, _, _ => none
  | k + 1, x3, x4, x5 => if x5 < x4 then (impl_round.l0 k (wrap64 (x3 * 10)) x4 (wrap64 (x5 + 1))) else (some x3)
def impl_round.f (k : Nat) (a0 : Int) : Option (Int) := impl_round.l0 k 1 a0 0
theorem impl_round.mono_l : ∀ k, (∀ y0 y1 y2, LeO (impl_round.l0 k y0 y1 y2) (impl_round.l0 (k + 1) y0 y1 y2))
  | 0 => fun _ _ _ r h => by simp [impl_round.l0] at h
  | k + 1 => by
    have ih0 := impl_round.mono_l k
    · intro y0 y1 y2
      unfold impl_round.l0
      repeat' first
      | (with_reducible exact ih0 _ _ _)
      | (with_reducible exact LeO.refl _)
      | (with_reducible exact LeO.none _)
      | (with_reducible refine LeO.ite ?_ ?_)
      | (with_reducible refine LeO.bind ?_ (fun _ => ?_))
      | exact ih0 _ _ _
      | exact LeO.none _
      | refine LeO.ite ?_ ?_
      | refine LeO.bind ?_ (fun _ => ?_)
theorem impl_round.mono : ∀ a0 k, LeO (impl_round.f k a0) (impl_round.f (k + 1) a0) := by
  intro a0 k
  have ih0 := impl_round.mono_l k
  unfold impl_round.f
  repeat' first
      | (with_reducible exact ih0 _ _ _)
      | (with_reducible exact LeO.refl _)
      | (with_reducible exact LeO.none _)
      | (with_reducible refine LeO.ite ?_ ?_)
      | (with_reducible refine LeO.bind ?_ (fun _ => ?_))
      | exact ih0 _ _ _
      | exact LeO.none _
      | refine LeO.ite ?_ ?_
      | refine LeO.bind ?_ (fun _ => ?_)
set_option maxHeartbeats 8000000 in
set_option maxRecDepth 100000 in
theorem impl_round.calls (k : Nat) (a0 : Int) (r : Int) (w : World) (h : impl_round.f k a0 = some r) :
    Calls Tryd.prog 33 #[.int .i64 a0] w fun e w' => e = .returned (.int .i64 r) ∧ Drawn0 w w' := by
  have H : (impl_round.l0 k 1 a0 0) = some r := h
  clear h
  have H' := Aside0.mk H
  clear H
  go_enter Tryd.func33, Tryd.ntmps33
  go_wp2
  go_loopg [3, 5] k (fun kq v3 v5 w' => ∃ (x3_1 : Int) (x5_1 : Int), v3 = .int .i64 x3_1 ∧ v5 = .int .i64 x5_1 ∧ Aside0 (impl_round.l0 kq x3_1 a0 x5_1 = some r) ∧ Aside0 (kq ≤ k) ∧ Drawn0 w w')
  case atStart => exact ⟨(1), (0), (by first | rfl | (simp; done) | (simp [*]; done)), (by first | rfl | (simp; done) | (simp [*]; done)), H', ⟨Nat.le_refl _⟩, by repeat (first | exact Drawn0.refl _ | apply Drawn0.step)⟩
  case round =>
    clear H'
    obtain ⟨x3_1, x5_1, rfl, rfl, HA, HK1, ⟨m1, rfl⟩⟩ := hrel
    cases gk with
    | zero => exact absurd HA.out (by simp [impl_round.l0])
    | succ k1 =>
      have H := HA.out
      clear HA
      simp only [impl_round.l0] at H
      by_cases c2 : x5_1 < a0
      · rw [if_pos c2] at H
        have c2b0 : decide (x5_1 < a0) = true := decide_eq_true c2
        clear c2
        have H' := Aside0.mk H
        clear H
        go_wp2
        go_roundg k1
        case measure => have := HK1.out; omega
        case rel => exact ⟨(wrap64 (x3_1 * 10)), (wrap64 (x5_1 + 1)), (by first | rfl | (simp; done) | (simp [*]; done)), (by first | rfl | (simp; done) | (simp [*]; done)), H', ⟨by have := HK1.out; omega⟩, by repeat (first | exact Drawn0.refl _ | apply Drawn0.step)⟩
      · rw [if_neg c2] at H
        have c2b0 : decide (x5_1 < a0) = false := decide_eq_false c2
        clear c2
        obtain rfl := Option.some.inj H
        go_wp2
        go_ret
        exact ⟨by first | rfl | (simp; done) | (simp [*]; done), by repeat (first | exact Drawn0.refl _ | apply Drawn0.step)⟩

end Go.Proofs.YtpdcjkiejglaiaaDoor.Q

/-
  Readings and their numbers: a text of so many digits tells a number, and each number below a power of ten has one such text.
-/
namespace Go.Proofs.YtpdcjkiejglaiaaDoor.Q
open Go.RowKit Go.Proofs.YtpdcjkiejglaiaaDoorW.PrintWords Go.Proofs.YtpdcjkiejglaiaaDoorW.PrintLast Go.Proofs.YtpdcjkiejglaiaaDoorW.PrintMore
set_option linter.unusedVariables false
set_option linter.unusedSimpArgs false

theorem li_nums (l : List Int) (h : ∀ x ∈ l, 0 ≤ x ∧ x < 256) : li (strOfNums l) = l := by
  unfold li strOfNums
  simp only [List.map_map]
  rw [List.map_congr_left (g := id)]
  · simp
  · intro x hx
    have := h x hx
    simp [Nat.toUInt8]
    omega

/-- so many digits of a number -/
def dl : Nat → Nat → List Int
  | 0, _ => []
  | i + 1, v => dl i (v / 10) ++ [48 + ((v % 10 : Nat) : Int)]
def tx (i v : Nat) : ByteArray := strOfNums (dl i v)
theorem dl_length : ∀ i v, (dl i v).length = i
  | 0, _ => rfl
  | i + 1, v => by simp [dl, dl_length i]
theorem dl_dig : ∀ i v, ∀ x ∈ dl i v, 48 ≤ x ∧ x ≤ 57
  | 0, _, x, h => by simp [dl] at h
  | i + 1, v, x, h => by
    simp only [dl, List.mem_append, List.mem_singleton] at h
    rcases h with h | h
    · exact dl_dig i _ x h
    · omega
theorem li_tx (i v : Nat) : li (tx i v) = dl i v := li_nums _ (fun x hx => by have := dl_dig i v x hx; omega)
theorem tx_size (i v : Nat) : (tx i v).size = i := by rw [← li_length, li_tx, dl_length]
theorem dl_get : ∀ (i v j : Nat), j < i → (dl i v).getD j 0 = 48 + ((v / 10 ^ (i - 1 - j) % 10 : Nat) : Int)
  | 0, _, _, h => by omega
  | i + 1, v, j, h => by
    simp only [dl, List.getD_eq_getElem?_getD]
    by_cases e : j = i
    · subst e
      rw [List.getElem?_append_right (by rw [dl_length]; exact Nat.le_refl _)]
      simp [dl_length]
    · rw [List.getElem?_append_left (by rw [dl_length]; omega), ← List.getD_eq_getElem?_getD, dl_get i (v / 10) j (by omega), Nat.div_div_eq_div_mul, show i + 1 - 1 - j = (i - 1 - j) + 1 by omega, Nat.pow_succ, Nat.mul_comm 10]
theorem bt_tx (i v j : Nat) (h : j < i) : bt (tx i v) j = 48 + ((v / 10 ^ (i - 1 - j) % 10 : Nat) : Int) := by
  rw [bt_li, li_tx]
  exact dl_get i v j h
theorem tx_dig (i v : Nat) : ∀ j : Nat, j < (tx i v).size → 48 ≤ bt (tx i v) j ∧ bt (tx i v) j ≤ 57 := by
  intro j hj
  rw [tx_size] at hj
  rw [bt_tx i v j hj]
  omega
theorem tx_succ (i v d : Nat) (hd : d < 10) : tx (i + 1) (10 * v + d) = tx i v ++ strOfNums [48 + (d : Int)] := by
  apply li_inj
  rw [li_append, li_tx, li_tx, li_nums _ (by simp; omega)]
  simp only [dl]
  rw [show (10 * v + d) / 10 = v by omega, show (10 * v + d) % 10 = d by omega]
theorem tx_zero (v : Nat) : tx 0 v = ⟨#[]⟩ := rfl

/-- the number that digits tell -/
def val : List Int → Nat := List.foldl (fun a d => 10 * a + (d - 48).toNat) 0
theorem val_snoc (l : List Int) (d : Int) : val (l ++ [d]) = 10 * val l + (d - 48).toNat := by simp [val, List.foldl_append]
theorem val_lt (l : List Int) (h : ∀ x ∈ l, 48 ≤ x ∧ x ≤ 57) : val l < 10 ^ l.length := by
  have key : ∀ (n : Nat) (l : List Int), l.length = n → (∀ x ∈ l, 48 ≤ x ∧ x ≤ 57) → val l < 10 ^ n := by
    intro n
    induction n with
    | zero =>
      intro l hl _
      obtain rfl := List.eq_nil_of_length_eq_zero hl
      decide
    | succ n ih =>
      intro l hl h
      have hne : l ≠ [] := by intro e; rw [e] at hl; simp at hl
      obtain ⟨l', d, rfl⟩ : ∃ l' d, l = l' ++ [d] := ⟨l.dropLast, l.getLast hne, (List.dropLast_concat_getLast hne).symm⟩
      have h1 := ih l' (by simpa using hl) (fun x hx => h x (List.mem_append_left _ hx))
      have h2 := h d (by simp)
      rw [val_snoc, Nat.pow_succ]
      omega
  exact key _ l rfl h
theorem dl_val (l : List Int) (h : ∀ x ∈ l, 48 ≤ x ∧ x ≤ 57) : dl l.length (val l) = l := by
  have key : ∀ (n : Nat) (l : List Int), l.length = n → (∀ x ∈ l, 48 ≤ x ∧ x ≤ 57) → dl n (val l) = l := by
    intro n
    induction n with
    | zero =>
      intro l hl _
      obtain rfl := List.eq_nil_of_length_eq_zero hl
      rfl
    | succ n ih =>
      intro l hl h
      have hne : l ≠ [] := by intro e; rw [e] at hl; simp at hl
      obtain ⟨l', d, rfl⟩ : ∃ l' d, l = l' ++ [d] := ⟨l.dropLast, l.getLast hne, (List.dropLast_concat_getLast hne).symm⟩
      have h1 := ih l' (by simpa using hl) (fun x hx => h x (List.mem_append_left _ hx))
      have h2 := h d (by simp)
      simp only [dl]
      rw [val_snoc, show (10 * val l' + (d - 48).toNat) / 10 = val l' by omega, show (10 * val l' + (d - 48).toNat) % 10 = (d - 48).toNat by omega, h1]
      congr 2
      omega
  exact key _ l rfl h
theorem val_dl : ∀ (i v : Nat), val (dl i v) = v % 10 ^ i
  | 0, v => by rw [Nat.pow_zero, Nat.mod_one]; rfl
  | i + 1, v => by
    simp only [dl]
    rw [val_snoc, val_dl i (v / 10), Nat.pow_succ]
    have : (48 + ((v % 10 : Nat) : Int) - 48).toNat = v % 10 := by omega
    rw [this]
    have h1 := Nat.mod_mul (x := v) (a := 10) (b := 10 ^ i)
    rw [Nat.mul_comm (10 ^ i) 10, h1]
    omega
theorem good_tx {s : ByteArray} (h : good s = true) : ∃ v, v < 10 ^ s.size ∧ s = tx s.size v ∧ val (li s) = v := by
  obtain ⟨h1, h9, hd⟩ := good_at h
  have hds : ∀ x ∈ li s, 48 ≤ x ∧ x ≤ 57 := by
    intro x hx
    obtain ⟨j, hj, rfl⟩ := List.mem_iff_getElem.1 hx
    have := hd j (by rw [li_length] at hj; exact hj)
    rw [bt_li] at this
    simpa [List.getD_eq_getElem?_getD, hj] using this
  refine ⟨val (li s), by have := val_lt _ hds; rwa [li_length] at this, li_inj ?_, rfl⟩
  rw [li_tx]
  have := dl_val _ hds
  rw [li_length] at this
  exact this.symm
theorem pow_le {i : Nat} (h : i ≤ 9) : 10 ^ i ≤ 1000000000 := by
  have : 10 ^ i ≤ 10 ^ 9 := Nat.pow_le_pow_right (by decide) h
  simpa using this

theorem pow_step (p : Nat) (h : p ≤ 1000000000) : wrap64 ((p : Int) * 10) = ((p * 10 : Nat) : Int) := by rw [wrap_id (by omega) (by omega)]; omega

/-- a text's number, read by either text -/
theorem tk_ev (i v : Nat) (h9 : i ≤ 9) (hv : v < 10 ^ i) : Ev (fun k => spec_tkNumber.f k (tx i v)) (v : Int) := by
  have loop : ∀ (d j : Nat), j + d = i → Ev (fun k => spec_tkNumber.l0 k (tx i v) ((v / 10 ^ (i - j) : Nat) : Int) (j : Int)) (v : Int) := by
    intro d
    induction d with
    | zero =>
      intro j hj
      obtain rfl : j = i := by omega
      refine Ev.step (f := fun _ => some ((v : Nat) : Int)) (fun k => ?_) (Ev.now _)
      have c : ¬ (j : Int) < ((tx j v).size : Int) := by rw [tx_size]; omega
      simp only [spec_tkNumber.l0]
      rw [if_neg c]
      simp
    | succ d ih =>
      intro j hj
      refine Ev.step (fun k => ?_) (ih (j + 1) (by omega))
      have c : (j : Int) < ((tx i v).size : Int) := by rw [tx_size]; omega
      have c2 : 0 ≤ (j : Int) := by omega
      have hp := pow_le h9
      have hle : v / 10 ^ (i - j) ≤ v := Nat.div_le_self _ _
      have hb := bt_tx i v j (by omega)
      have e : 10 * (v / 10 ^ (i - j)) + v / 10 ^ (i - 1 - j) % 10 = v / 10 ^ (i - (j + 1)) := by
        rw [show i - j = (i - 1 - j) + 1 by omega, Nat.pow_succ, ← Nat.div_div_eq_div_mul, show i - (j + 1) = i - 1 - j by omega]
        omega
      have e2 : wrap64 (wrap64 (((v / 10 ^ (i - j) : Nat) : Int) * 10) + (bt (tx i v) (j : Int) - 48) % 256) = ((v / 10 ^ (i - (j + 1)) : Nat) : Int) := by
        rw [hb, wrap_id (i := ((v / 10 ^ (i - j) : Nat) : Int) * 10) (by omega) (by omega), wrap_id (by omega) (by omega)]
        omega
      have e1 : wrap64 ((j : Int) + 1) = ((j + 1 : Nat) : Int) := by rw [wrap_id (by omega) (by omega)]; rfl
      simp only [spec_tkNumber.l0]
      rw [if_pos c, if_pos c2, e2, e1]
  have := loop i 0 (by omega)
  rw [Nat.sub_zero, Nat.div_eq_of_lt hv] at this
  exact this
theorem number_ev (i v : Nat) (h9 : i ≤ 9) (hv : v < 10 ^ i) : Ev (fun k => impl_numberOf.f k (tx i v)) (v : Int) := by
  have loop : ∀ (d j : Nat), j + d = i → Ev (fun k => impl_numberOf.l0 k (tx i v) ((v / 10 ^ (i - j) : Nat) : Int) (i : Int) (j : Int)) (v : Int) := by
    intro d
    induction d with
    | zero =>
      intro j hj
      obtain rfl : j = i := by omega
      refine Ev.step (f := fun _ => some ((v : Nat) : Int)) (fun k => ?_) (Ev.now _)
      have c : ¬ (j : Int) < (j : Int) := by omega
      simp only [impl_numberOf.l0]
      rw [if_neg c]
      simp
    | succ d ih =>
      intro j hj
      refine Ev.step (fun k => ?_) (ih (j + 1) (by omega))
      have c : (j : Int) < ((tx i v).size : Int) := by rw [tx_size]; omega
      have c0 : (j : Int) < (i : Int) := by omega
      have c2 : 0 ≤ (j : Int) := by omega
      have hp := pow_le h9
      have hle : v / 10 ^ (i - j) ≤ v := Nat.div_le_self _ _
      have hb := bt_tx i v j (by omega)
      have e : 10 * (v / 10 ^ (i - j)) + v / 10 ^ (i - 1 - j) % 10 = v / 10 ^ (i - (j + 1)) := by
        rw [show i - j = (i - 1 - j) + 1 by omega, Nat.pow_succ, ← Nat.div_div_eq_div_mul, show i - (j + 1) = i - 1 - j by omega]
        omega
      have e2 : wrap64 (wrap64 (10 * ((v / 10 ^ (i - j) : Nat) : Int)) + (bt (tx i v) (j : Int) - 48) % 256) = ((v / 10 ^ (i - (j + 1)) : Nat) : Int) := by
        rw [hb, wrap_id (i := 10 * ((v / 10 ^ (i - j) : Nat) : Int)) (by omega) (by omega), wrap_id (by omega) (by omega)]
        omega
      have e1 : wrap64 ((j : Int) + 1) = ((j + 1 : Nat) : Int) := by rw [wrap_id (by omega) (by omega)]; rfl
      simp only [impl_numberOf.l0]
      rw [if_pos c0, if_pos c2, if_pos c, e2, e1]
  have := loop i 0 (by omega)
  rw [Nat.sub_zero, Nat.div_eq_of_lt hv] at this
  unfold impl_numberOf.f
  rw [tx_size]
  exact this
theorem miAll_ev (i : Nat) (h9 : i ≤ 9) : Ev (fun k => spec_miAll.f k (i : Int)) ((10 ^ i : Nat) : Int) := by
  have loop : ∀ (d j : Nat), j + d = i → Ev (fun k => spec_miAll.l0 k (d : Int) ((10 ^ j : Nat) : Int)) ((10 ^ i : Nat) : Int) := by
    intro d
    induction d with
    | zero =>
      intro j hj
      obtain rfl : j = i := by omega
      refine Ev.step (f := fun _ => some ((10 ^ j : Nat) : Int)) (fun k => ?_) (Ev.now _)
      simp only [spec_miAll.l0]
      rw [if_neg (by omega)]
    | succ d ih =>
      intro j hj
      refine Ev.step (fun k => ?_) (ih (j + 1) (by omega))
      have hp := pow_le (show j ≤ 9 by omega)
      have c : ((d + 1 : Nat) : Int) > 0 := by omega
      have e1 : wrap64 (((d + 1 : Nat) : Int) - 1) = (d : Int) := by rw [wrap_id (by omega) (by omega)]; omega
      have e2 := pow_step (10 ^ j) hp
      rw [← Nat.pow_succ] at e2
      simp only [spec_miAll.l0]
      rw [if_pos c, e1, e2]
  unfold spec_miAll.f
  have := loop i 0 (by omega)
  rw [Nat.pow_zero] at this
  exact this
theorem round_ev (i : Nat) (h9 : i ≤ 9) : Ev (fun k => impl_round.f k (i : Int)) ((10 ^ i : Nat) : Int) := by
  have loop : ∀ (d j : Nat), j + d = i → Ev (fun k => impl_round.l0 k ((10 ^ j : Nat) : Int) (i : Int) (j : Int)) ((10 ^ i : Nat) : Int) := by
    intro d
    induction d with
    | zero =>
      intro j hj
      obtain rfl : j = i := by omega
      refine Ev.step (f := fun _ => some ((10 ^ j : Nat) : Int)) (fun k => ?_) (Ev.now _)
      simp only [impl_round.l0]
      rw [if_neg (by omega)]
    | succ d ih =>
      intro j hj
      refine Ev.step (fun k => ?_) (ih (j + 1) (by omega))
      have hp := pow_le (show j ≤ 9 by omega)
      have c : (j : Int) < (i : Int) := by omega
      have e1 : wrap64 ((j : Int) + 1) = ((j + 1 : Nat) : Int) := by rw [wrap_id (by omega) (by omega)]; rfl
      have e2 := pow_step (10 ^ j) hp
      rw [← Nat.pow_succ] at e2
      simp only [impl_round.l0]
      rw [if_pos c, e1, e2]
  unfold impl_round.f
  have := loop i 0 (by omega)
  rw [Nat.pow_zero] at this
  exact this
theorem l1Num_ev (a : Nat) (h : a < 10) : Ev (fun k => spec_l1Num.f k (a : Int)) (strOfNums [48 + (a : Int)]) := by
  refine Ev.step (f := fun _ => some (strOfNums [48 + (a : Int)])) (fun k => ?_) (Ev.now _)
  have c : (a : Int) < 10 := by omega
  have e : wrap64 (48 + (a : Int)) % 256 = 48 + (a : Int) := by rw [wrap_id (by omega) (by omega)]; omega
  simp only [spec_l1Num.f]
  rw [if_pos c, e]
end Go.Proofs.YtpdcjkiejglaiaaDoor.Q

/-
  The reference's test of a kind is that of the program: a reading is of a kind just if each of its digits may stand where it stands.
-/
namespace Go.Proofs.YtpdcjkiejglaiaaDoor.Q
open Go.RowKit Go.Proofs.YtpdcjkiejglaiaaDoorW.PrintWords Go.Proofs.YtpdcjkiejglaiaaDoorW.PrintLast Go.Proofs.YtpdcjkiejglaiaaDoorW.PrintMore
set_option linter.unusedVariables false
set_option linter.unusedSimpArgs false

theorem cntNew_pos (s : ByteArray) : ∀ n : Nat, 1 ≤ n → 1 ≤ cntNew s n
  | 0, h => by omega
  | 1, _ => by simp [cntNew, newTo]
  | n + 2, _ => by
    have h1 := cntNew_pos s (n + 1) (by omega)
    have e : cntNew s (n + 2) = cntNew s (n + 1) + (if newTo s (n + 1) (n + 1) = true then 1 else 0) := rfl
    rw [e]
    split <;> omega
theorem cntNew_one (s : ByteArray) : ∀ n : Nat, 1 ≤ n → (cntNew s n = 1 ↔ ∀ i, 1 ≤ i → i < n → newTo s i i = false)
  | 0, h => by omega
  | 1, _ => by
    simp only [cntNew, newTo, if_true]
    constructor
    · intro _ i h1 h2; omega
    · intro _; rfl
  | n + 2, _ => by
    have ih := cntNew_one s (n + 1) (by omega)
    have hp := cntNew_pos s (n + 1) (by omega)
    have e : cntNew s (n + 2) = cntNew s (n + 1) + (if newTo s (n + 1) (n + 1) = true then 1 else 0) := rfl
    rw [e]
    constructor
    · intro h i h1 h2
      by_cases hn : newTo s (n + 1) (n + 1) = true
      · rw [if_pos hn] at h; omega
      · rw [if_neg hn] at h
        by_cases hi : i = n + 1
        · rw [hi]; simpa using hn
        · exact ih.1 (by omega) i h1 (by omega)
    · intro h
      rw [if_neg (by rw [h (n + 1) (by omega) (by omega)]; decide), ih.2 (fun i h1 h2 => h i h1 (by omega))]
      rfl
theorem cntNew_all (s : ByteArray) : ∀ n : Nat, (cntNew s n = n ↔ ∀ i, i < n → newTo s i i = true)
  | 0 => by simp [cntNew]
  | n + 1 => by
    have ih := cntNew_all s n
    have hl := cntNew_le s n
    have e : cntNew s (n + 1) = cntNew s n + (if newTo s n n = true then 1 else 0) := rfl
    rw [e]
    constructor
    · intro h i hi
      by_cases hn : newTo s n n = true
      · rw [if_pos hn] at h
        by_cases he : i = n
        · rw [he]; exact hn
        · exact ih.1 (by omega) i (by omega)
      · rw [if_neg hn] at h; omega
    · intro h
      rw [if_pos (h n (by omega)), ih.2 (fun i hi => h i (by omega))]
      rfl

/-- a kind's letter as a text -/
def kt (c : UInt8) : ByteArray := ⟨#[c]⟩
theorem kt_toList (c : UInt8) : (kt c).toList = [c] := by rw [ByteArray.toList_eq]; rfl

theorem low_dig {s : ByteArray} (hd : ∀ j : Nat, j < s.size → 48 ≤ bt s j ∧ bt s j ≤ 57) : lowB s = true := by
  unfold lowB
  rw [List.all_eq_true]
  intro c hc
  obtain ⟨j, hj, rfl⟩ := List.mem_iff_getElem.1 hc
  have hj' : j < s.size := by rw [Array.length_toList] at hj; exact hj
  have h1 := hd j hj'
  have h2 : ((s.data.toList[j].toNat : Nat) : Int) = bt s j := bt_at s (j : Int) hj'
  simp only [decide_eq_true_eq]
  omega
theorem miDigits_dig {s : ByteArray} (h9 : s.size ≤ 9) (hd : ∀ j : Nat, j < s.size → 48 ≤ bt s j ∧ bt s j ≤ 57) : spec_miDigits.f s = some (cntNew s s.size) := by
  unfold spec_miDigits.f
  rw [if_pos (low_dig hd), if_pos (by omega)]

theorem kind_a (s : ByteArray) (h1 : 1 ≤ s.size) : (cntNew s s.size == 1) = allF (mayAt 97 s s.size) s.size 0 := by
  rw [Bool.eq_iff_iff, allF_iff, beq_iff_eq, cntNew_one s _ h1]
  have e : ∀ j, (mayAt 97 s s.size j = true ↔ bt s j = bt s 0) := fun j => by simp [mayAt]
  constructor
  · intro h
    have : ∀ j, j < s.size → bt s j = bt s 0 := by
      intro j
      induction j using Nat.strongRecOn with
      | _ j ih =>
        intro hj
        by_cases h0 : j = 0
        · rw [h0]; rfl
        · have := h j (by omega) hj
          have hn : ¬ ∀ i : Nat, i < j → bt s i ≠ bt s j := fun hh => by rw [(newTo_iff s j j).2 hh] at this; cases this
          have : ∃ i : Nat, i < j ∧ bt s i = bt s j := by
            apply Classical.byContradiction
            intro hx
            exact hn fun i hi he => hx ⟨i, hi, he⟩
          obtain ⟨i, hi, he⟩ := this
          rw [← he, ih i hi (by omega)]
    intro j _ hj
    exact (e j).2 (this j (by omega))
  · intro h i hi1 hi2
    cases hn : newTo s i i with
    | false => rfl
    | true =>
      have := (newTo_iff s i i).1 hn 0 (by omega)
      exact absurd ((e i).1 (h i (by omega) (by omega))).symm this
theorem kind_d (s : ByteArray) : (cntNew s s.size == (s.size : Int)) = allF (mayAt 100 s s.size) s.size 0 := by
  rw [Bool.eq_iff_iff, allF_iff, beq_iff_eq, cntNew_all s]
  have e : ∀ j, mayAt 100 s s.size j = newTo s j j := fun j => by simp [mayAt]
  constructor
  · intro h j _ hj
    rw [e]; exact h j (by omega)
  · intro h i hi
    rw [← e]; exact h i (by omega) (by omega)
theorem bt_of_li {s t : ByteArray} {l : List Int} (h : li t = l) (i : Nat) : bt t i = l.getD i 0 := by rw [bt_li, h]; rfl
theorem kind_m (s t : ByteArray) (ht : li t = (li s).reverse) : (t.toList == s.toList) = allF (mayAt 109 s s.size) s.size 0 := by
  rw [beq_li, Bool.eq_iff_iff, allF_iff, decide_eq_true_eq]
  have hz : t.size = s.size := by rw [size_li ht, List.length_reverse, li_length]
  have hb : ∀ i : Nat, i < s.size → bt t i = bt s ((s.size - 1 - i : Nat) : Int) := by
    intro i hi
    rw [bt_of_li (s := s) ht, getD_reverse _ _ (by rw [li_length]; exact hi), li_length, bt_li]
    rfl
  have e : ∀ j, (mayAt 109 s s.size j = true ↔ j < s.size - 1 - j ∨ bt s ((s.size - 1 - j : Nat) : Int) = bt s j) := fun j => by simp [mayAt]
  constructor
  · intro h j _ hj
    refine (e j).2 (.inr ?_)
    rw [← hb j (by omega), bt_li, bt_li, h]
  · intro h
    refine li_ext hz fun i hi => ?_
    rw [hz] at hi
    rw [hb i hi]
    by_cases hlt : i < s.size - 1 - i
    · have := (e (s.size - 1 - i)).1 (h _ (by omega) (by omega))
      rw [show s.size - 1 - (s.size - 1 - i) = i by omega] at this
      rcases this with h1 | h1
      · omega
      · exact h1.symm
    · rcases (e i).1 (h i (by omega) (by omega)) with h1 | h1
      · omega
      · exact h1
theorem up_up {x : Int} (h : up x ≠ 0) : up (up x) = x := by
  rcases up_cases x with ⟨h1, h2⟩ | ⟨h1, h2⟩ | ⟨h1, h2⟩ | ⟨_, _, _, _, _, h2⟩
  · rw [h2, h2]
  · rw [h2, h1]; decide
  · rw [h2, h1]; decide
  · exact absurd h2 h
theorem kind_u (s t : ByteArray) (b : Bool) (h1 : b = true ↔ ∀ j : Nat, j < s.size → up (bt s j) ≠ 0) (h2 : b = true → li t = ((li s).map up).reverse) :
    (if b = true then (t.toList == s.toList) else false) = allF (mayAt 117 s s.size) s.size 0 := by
  have e : ∀ j, (mayAt 117 s s.size j = true ↔ up (bt s j) ≠ 0 ∧ (j < s.size - 1 - j ∨ bt s ((s.size - 1 - j : Nat) : Int) = up (bt s j))) := fun j => by simp [mayAt]
  by_cases hb : b = true
  · rw [if_pos hb, beq_li, Bool.eq_iff_iff, allF_iff, decide_eq_true_eq]
    have ht := h2 hb
    have hu := h1.1 hb
    have hz : t.size = s.size := by rw [size_li ht, List.length_reverse, List.length_map, li_length]
    have hbt : ∀ i : Nat, i < s.size → bt t i = up (bt s ((s.size - 1 - i : Nat) : Int)) := by
      intro i hi
      rw [bt_of_li (s := s) ht, getD_reverse _ _ (by rw [List.length_map, li_length]; exact hi), List.length_map, li_length, bt_li]
      have hlt : s.size - 1 - i < (li s).length := by rw [li_length]; omega
      simp [List.getD_eq_getElem?_getD, hlt]
    constructor
    · intro h j _ hj
      refine (e j).2 ⟨hu j (by omega), .inr ?_⟩
      have h3 := hbt (s.size - 1 - j) (by omega)
      rw [show s.size - 1 - (s.size - 1 - j) = j by omega] at h3
      rw [← h3, bt_li, bt_li, h]
    · intro h
      refine li_ext hz fun i hi => ?_
      rw [hz] at hi
      rw [hbt i hi]
      by_cases hlt : i < s.size - 1 - i
      · have := ((e (s.size - 1 - i)).1 (h _ (by omega) (by omega))).2
        rw [show s.size - 1 - (s.size - 1 - i) = i by omega] at this
        rcases this with h3 | h3
        · omega
        · exact h3.symm
      · rcases ((e i).1 (h i (by omega) (by omega))).2 with h3 | h3
        · omega
        · rw [h3, up_up (hu i hi)]
  · rw [if_neg hb]
    symm
    cases ha : allF (mayAt 117 s s.size) s.size 0 with
    | false => rfl
    | true =>
      exfalso
      apply hb
      rw [h1]
      intro j hj
      exact ((e j).1 ((allF_iff _ _ _).1 ha j (by omega) (by omega))).1
theorem rise_le (s : ByteArray) (hd : ∀ j : Nat, j < s.size → 48 ≤ bt s j ∧ bt s j ≤ 57) (h : ∀ j : Nat, 1 ≤ j → j < s.size → bt s ((j - 1 : Nat) : Int) < bt s j) :
    ∀ d i : Nat, i + d + 1 = s.size → bt s i + d ≤ 57
  | 0, i, hi => by have := hd i (by omega); omega
  | d + 1, i, hi => by
    have h1 := rise_le s hd h d (i + 1) (by omega)
    have h2 := h (i + 1) (by omega) (by omega)
    rw [show i + 1 - 1 = i by omega] at h2
    omega
theorem fall_ge (s : ByteArray) (hd : ∀ j : Nat, j < s.size → 48 ≤ bt s j ∧ bt s j ≤ 57) (h : ∀ j : Nat, 1 ≤ j → j < s.size → bt s j < bt s ((j - 1 : Nat) : Int)) :
    ∀ d i : Nat, i + d + 1 = s.size → 48 + (d : Int) ≤ bt s i
  | 0, i, hi => by have := hd i (by omega); omega
  | d + 1, i, hi => by
    have h1 := fall_ge s hd h d (i + 1) (by omega)
    have h2 := h (i + 1) (by omega) (by omega)
    rw [show i + 1 - 1 = i by omega] at h2
    omega
def riseAt (s : ByteArray) (i : Nat) : Bool := decide (bt s ((i - 1 : Nat) : Int) < bt s i)
def fallAt (s : ByteArray) (i : Nat) : Bool := decide (bt s i < bt s ((i - 1 : Nat) : Int))
theorem kind_r (s : ByteArray) (h1 : 1 ≤ s.size) (hd : ∀ j : Nat, j < s.size → 48 ≤ bt s j ∧ bt s j ≤ 57) : allF (riseAt s) (s.size - 1) 1 = allF (mayAt 114 s s.size) s.size 0 := by
  have e : ∀ j, (mayAt 114 s s.size j = true ↔ (j = 0 ∨ bt s ((j - 1 : Nat) : Int) < bt s j) ∧ bt s j - 48 + ((s.size - 1 - j : Nat) : Int) ≤ 9) := fun j => by simp [mayAt]
  rw [Bool.eq_iff_iff, allF_iff, allF_iff]
  constructor
  · intro h j _ hj
    have hr : ∀ j : Nat, 1 ≤ j → j < s.size → bt s ((j - 1 : Nat) : Int) < bt s j := fun j a b => by simpa [riseAt] using h j a (by omega)
    refine (e j).2 ⟨?_, ?_⟩
    · by_cases h0 : j = 0
      · exact .inl h0
      · exact .inr (hr j (by omega) (by omega))
    · have := rise_le s hd hr (s.size - 1 - j) j (by omega)
      omega
  · intro h j a b
    rcases ((e j).1 (h j (by omega) (by omega))).1 with h0 | h0
    · omega
    · simpa [riseAt] using h0
theorem kind_f (s : ByteArray) (h1 : 1 ≤ s.size) (hd : ∀ j : Nat, j < s.size → 48 ≤ bt s j ∧ bt s j ≤ 57) : allF (fallAt s) (s.size - 1) 1 = allF (mayAt 102 s s.size) s.size 0 := by
  have e : ∀ j, (mayAt 102 s s.size j = true ↔ (j = 0 ∨ bt s j < bt s ((j - 1 : Nat) : Int)) ∧ ((s.size - 1 - j : Nat) : Int) ≤ bt s j - 48) := fun j => by simp [mayAt]
  rw [Bool.eq_iff_iff, allF_iff, allF_iff]
  constructor
  · intro h j _ hj
    have hr : ∀ j : Nat, 1 ≤ j → j < s.size → bt s j < bt s ((j - 1 : Nat) : Int) := fun j a b => by simpa [fallAt] using h j a (by omega)
    refine (e j).2 ⟨?_, ?_⟩
    · by_cases h0 : j = 0
      · exact .inl h0
      · exact .inr (hr j (by omega) (by omega))
    · have := fall_ge s hd hr (s.size - 1 - j) j (by omega)
      omega
  · intro h j a b
    rcases ((e j).1 (h j (by omega) (by omega))).1 with h0 | h0
    · omega
    · simpa [fallAt] using h0

/-- the letters of the kinds -/
def isLetter (c : UInt8) : Prop := c = 97 ∨ c = 109 ∨ c = 117 ∨ c = 114 ∨ c = 102 ∨ c = 100

theorem miIs_rise (s : ByteArray) (h9 : s.size ≤ 9) (h1 : 1 ≤ s.size) : Ev (fun k => spec_miIs.l0 k s (kt 114) 1) (allF (riseAt s) (s.size - 1) 1) := by
  have stop : Ev (fun k => spec_miIs.l0 k s (kt 114) ((s.size : Nat) : Int)) true := by
    refine Ev.step (f := fun _ => some true) (fun k => ?_) (Ev.now _)
    simp only [spec_miIs.l0]
    rw [if_neg (by omega)]
  have body : ∀ i : Nat, 1 ≤ i → i < s.size → ∀ k, spec_miIs.l0 (k + 1) s (kt 114) (i : Int) = if bt s i ≤ bt s ((i - 1 : Nat) : Int) then some false else spec_miIs.l0 k s (kt 114) ((i + 1 : Nat) : Int) := by
    intro i hi1 hi k
    have e1 : wrap64 ((i : Int) - 1) = ((i - 1 : Nat) : Int) := by rw [wrap_id (by omega) (by omega)]; omega
    have e2 : wrap64 ((i : Int) + 1) = ((i + 1 : Nat) : Int) := by rw [wrap_id (by omega) (by omega)]; rfl
    simp only [spec_miIs.l0, kt_toList, e1, e2]
    rw [if_pos (by omega), if_true, if_pos (by omega), if_pos (by omega), if_pos (by omega)]
    have hne : ¬ ([114] : List UInt8) = [102] := by decide
    simp only [hne, if_false]
  refine Ev.eq (Ev_all_from (l := fun k i => spec_miIs.l0 k s (kt 114) (i : Int)) (p := riseAt s) (n := s.size) (m := 1) stop ?_ ?_ (s.size - 1) 1 (by omega) (by omega)) (by simp)
  · intro i hm hi hp q hq
    simp only [riseAt, decide_eq_true_eq] at hp
    exact Ev.step (fun k => by rw [body i hm hi k, if_neg (by omega)]) hq
  · intro i hm hi hp
    simp only [riseAt, decide_eq_false_iff_not] at hp
    exact Ev.step (f := fun _ => some false) (fun k => by rw [body i hm hi k, if_pos (by omega)]) (Ev.now _)
theorem miIs_fall (s : ByteArray) (h9 : s.size ≤ 9) (h1 : 1 ≤ s.size) : Ev (fun k => spec_miIs.l0 k s (kt 102) 1) (allF (fallAt s) (s.size - 1) 1) := by
  have stop : Ev (fun k => spec_miIs.l0 k s (kt 102) ((s.size : Nat) : Int)) true := by
    refine Ev.step (f := fun _ => some true) (fun k => ?_) (Ev.now _)
    simp only [spec_miIs.l0]
    rw [if_neg (by omega)]
  have body : ∀ i : Nat, 1 ≤ i → i < s.size → ∀ k, spec_miIs.l0 (k + 1) s (kt 102) (i : Int) = if bt s i ≥ bt s ((i - 1 : Nat) : Int) then some false else spec_miIs.l0 k s (kt 102) ((i + 1 : Nat) : Int) := by
    intro i hi1 hi k
    have e1 : wrap64 ((i : Int) - 1) = ((i - 1 : Nat) : Int) := by rw [wrap_id (by omega) (by omega)]; omega
    have e2 : wrap64 ((i : Int) + 1) = ((i + 1 : Nat) : Int) := by rw [wrap_id (by omega) (by omega)]; rfl
    have hne : ¬ ([102] : List UInt8) = [114] := by decide
    simp only [spec_miIs.l0, kt_toList, e1, e2]
    rw [if_pos (by omega), if_neg hne, if_true, if_pos (by omega), if_pos (by omega), if_pos (by omega)]
  refine Ev.eq (Ev_all_from (l := fun k i => spec_miIs.l0 k s (kt 102) (i : Int)) (p := fallAt s) (n := s.size) (m := 1) stop ?_ ?_ (s.size - 1) 1 (by omega) (by omega)) (by simp)
  · intro i hm hi hp q hq
    simp only [fallAt, decide_eq_true_eq] at hp
    exact Ev.step (fun k => by rw [body i hm hi k, if_neg (by omega)]) hq
  · intro i hm hi hp
    simp only [fallAt, decide_eq_false_iff_not] at hp
    exact Ev.step (f := fun _ => some false) (fun k => by rw [body i hm hi k, if_pos (by omega)]) (Ev.now _)

/-- THE TWO TESTS OF A KIND ARE ONE. -/
theorem miIs_ev (c : UInt8) (hc : isLetter c) (s : ByteArray) (h1 : 1 ≤ s.size) (h9 : s.size ≤ 9) (hd : ∀ j : Nat, j < s.size → 48 ≤ bt s j ∧ bt s j ≤ 57) :
    Ev (fun k => spec_miIs.f k s (kt c)) (allF (mayAt (c.toNat : Int) s s.size) s.size 0) := by
  unfold spec_miIs.f
  simp only [kt_toList]
  have ne : ∀ {a b : UInt8}, a ≠ b → ¬ ([a] : List UInt8) = [b] := fun h e => h (by simpa using e)
  rcases hc with rfl | rfl | rfl | rfl | rfl | rfl
  · refine Ev.pos rfl ?_
    simp only [miDigits_dig h9 hd, Option.bind_some]
    exact Ev.eq (Ev.now _) (kind_a s h1)
  · refine Ev.neg (ne (by decide)) (Ev.pos rfl ?_)
    obtain ⟨t, ht, hl⟩ := miTurn_ev s (by omega)
    exact Ev.bind' ht (Ev.eq (Ev.now _) (kind_m s t hl))
  · refine Ev.neg (ne (by decide)) (Ev.neg (ne (by decide)) (Ev.pos rfl ?_))
    obtain ⟨t, b, ht, h2, h3, _⟩ := miUpside_ev s (by omega)
    refine Ev.bind' ht ?_
    have hk := kind_u s t b h2 h3
    by_cases hb : b = true
    · refine Ev.pos hb (Ev.eq (Ev.now _) ?_)
      rw [if_pos hb] at hk; exact hk
    · refine Ev.neg hb (Ev.eq (Ev.now _) ?_)
      rw [if_neg hb] at hk; exact hk
  · refine Ev.neg (ne (by decide)) (Ev.neg (ne (by decide)) (Ev.neg (ne (by decide)) (Ev.neg (ne (by decide)) ?_)))
    exact Ev.eq (miIs_rise s h9 h1) (kind_r s h1 hd)
  · refine Ev.neg (ne (by decide)) (Ev.neg (ne (by decide)) (Ev.neg (ne (by decide)) (Ev.neg (ne (by decide)) ?_)))
    exact Ev.eq (miIs_fall s h9 h1) (kind_f s h1 hd)
  · refine Ev.neg (ne (by decide)) (Ev.neg (ne (by decide)) (Ev.neg (ne (by decide)) (Ev.pos rfl ?_)))
    simp only [miDigits_dig h9 hd, Option.bind_some]
    exact Ev.eq (Ev.now _) (kind_d s)

end Go.Proofs.YtpdcjkiejglaiaaDoor.Q

/-
  Readings and their numbers: what a text of fewer digits is to a longer one, which of two texts is the lesser, and when a reading's number is of a kind.
-/
namespace Go.Proofs.YtpdcjkiejglaiaaDoor.Q
open Go.RowKit Go.Proofs.YtpdcjkiejglaiaaDoorW.PrintWords Go.Proofs.YtpdcjkiejglaiaaDoorW.PrintLast Go.Proofs.YtpdcjkiejglaiaaDoorW.PrintMore
set_option linter.unusedVariables false
set_option linter.unusedSimpArgs false

/-- is a number, written with so many digits, of a kind? -/
def K (c : Int) (n m : Nat) : Bool := allF (mayAt c (tx n m) n) n 0
theorem K_iff (c : Int) (n m : Nat) : K c n m = true ↔ ∀ j, j < n → mayAt c (tx n m) n j = true := by
  unfold K
  rw [allF_iff]
  exact ⟨fun h j hj => h j (by omega) (by omega), fun h j _ hj => h j (by omega)⟩
theorem pre_bt (n i m j : Nat) (hi : i ≤ n) (hj : j < i) : bt (tx n m) j = bt (tx i (m / 10 ^ (n - i))) j := by
  rw [bt_tx n m j (by omega), bt_tx i _ j hj, Nat.div_div_eq_div_mul, ← Nat.pow_add, show n - i + (i - 1 - j) = n - 1 - j by omega]
theorem pre_txt (n i m : Nat) (hi : i ≤ n) : (tx n m).extract 0 i = tx i (m / 10 ^ (n - i)) := by
  apply li_inj
  refine li_ext ?_ fun j hj => ?_
  · rw [size_extract0 _ _ (by rw [tx_size]; exact hi), tx_size]
  · rw [size_extract0 _ _ (by rw [tx_size]; exact hi)] at hj
    rw [bt_extract0 _ _ (by rw [tx_size]; exact hi) j hj, pre_bt n i m j hi hj]

/-! the order of texts -/
theorem less_snoc : ∀ (a b : List UInt8) (x y : UInt8), a.length = b.length → Op.bytesLess (a ++ [x]) (b ++ [y]) = (Op.bytesLess a b || (a == b && decide (x < y)))
  | [], [], x, y, _ => by simp [Op.bytesLess]
  | [], _ :: _, _, _, h => by simp at h
  | _ :: _, [], _, _, h => by simp at h
  | p :: a, q :: b, x, y, h => by
    have ih := less_snoc a b x y (by simpa using h)
    simp only [List.cons_append, Op.bytesLess, ih, List.cons_beq_cons]
    cases p == q <;> cases (decide (p < q)) <;> simp
def u8 (l : List Int) : List UInt8 := l.map fun x => x.toNat.toUInt8
theorem tx_list (i v : Nat) : (tx i v).toList = u8 (dl i v) := by rw [ByteArray.toList_eq]; simp [tx, strOfNums, u8]
theorem last_u8 (d : Nat) : (48 + (d : Int)).toNat.toUInt8 = (48 + d).toUInt8 := by rw [show (48 + (d : Int)).toNat = 48 + d by omega]
theorem snoc_inj {a b : List UInt8} {x y : UInt8} : a ++ [x] = b ++ [y] ↔ a = b ∧ x = y := by
  constructor
  · intro h
    have := List.append_inj' h rfl
    exact ⟨this.1, by simpa using this.2⟩
  · rintro ⟨rfl, rfl⟩; rfl
theorem less_tx : ∀ i v u : Nat, v < 10 ^ i → u < 10 ^ i → Op.bytesLess (tx i v).toList (tx i u).toList = decide (v < u) ∧ ((tx i v).toList == (tx i u).toList) = decide (v = u)
  | 0, v, u, hv, hu => by
    rw [Nat.pow_zero] at hv hu
    obtain rfl : v = 0 := by omega
    obtain rfl : u = 0 := by omega
    rw [tx_list]
    simp [dl, u8, Op.bytesLess]
  | i + 1, v, u, hv, hu => by
    rw [Nat.pow_succ] at hv hu
    have ih := less_tx i (v / 10) (u / 10) (by omega) (by omega)
    rw [tx_list, tx_list] at ih
    have ev : (tx (i + 1) v).toList = u8 (dl i (v / 10)) ++ [(48 + v % 10).toUInt8] := by rw [tx_list]; simp only [dl, u8, List.map_append, List.map_cons, List.map_nil, last_u8]
    have eu : (tx (i + 1) u).toList = u8 (dl i (u / 10)) ++ [(48 + u % 10).toUInt8] := by rw [tx_list]; simp only [dl, u8, List.map_append, List.map_cons, List.map_nil, last_u8]
    have hx : (48 + v % 10).toUInt8 < (48 + u % 10).toUInt8 ↔ v % 10 < u % 10 := by
      rw [UInt8.lt_iff_toNat_lt]
      simp [Nat.toUInt8]
      omega
    have he : (48 + v % 10).toUInt8 = (48 + u % 10).toUInt8 ↔ v % 10 = u % 10 := by
      rw [← UInt8.toNat_inj]
      simp [Nat.toUInt8]
      omega
    rw [ev, eu]
    constructor
    · rw [less_snoc _ _ _ _ (by simp [u8, dl_length]), ih.1, ih.2, Bool.eq_iff_iff]
      simp only [Bool.or_eq_true, Bool.and_eq_true, decide_eq_true_eq, hx]
      omega
    · rw [Bool.eq_iff_iff, beq_iff_eq, decide_eq_true_eq]
      have h2 := ih.2
      rw [Bool.eq_iff_iff, beq_iff_eq, decide_eq_true_eq] at h2
      rw [snoc_inj, h2, he]
      omega

end Go.Proofs.YtpdcjkiejglaiaaDoor.Q
