/-
  Texts of this claim, joined in their build order: the contracts of the functions that the statement reaches, and plain lemmas.
-/
import Derived.Test.YtpdcjkiejglaiaaProg
import Derived.Below
import Derived.Deep.Draws
import Derived.Deep.AppendLies
import Derived.Maps.AppendAt
import Derived.OwnWalk
import Derived.Laws.BytesArg
import Derived.Laws.MakeOwn
import Derived.Laws.OwnMore
import Derived.Deep.OwnRows
import Derived.Tactics
import Derived.Lib.ConvBytes
import Derived.Laws.Slices
import Derived.WalkKit
import Derived.KernelRfl
import Derived.RowKit3
import Derived.Deep.LoopGhost
import Derived.Deep.QuietTactic
import Derived.BigQuiet
import Derived.WideLaws
import Derived.Deep.DeepCutAuto
import Derived.Deep.CutBlock
import Derived.Deep.RegionHeld3
import Derived.Laws.Rows
import Derived.Lib.AppendStr
import Derived.ArgAppend
import Derived.Laws.IdiomCopy
import Derived.OrdersHeld
import Derived.Laws.BitsLemmas
import Derived.RowKit
import Derived.Test.YtpdcjkiejglaiaaWWords
import Derived.Test.YtpdcjkiejglaiaaWLast
import Derived.Test.YtpdcjkiejglaiaaWTab
import Derived.Test.YtpdcjkiejglaiaaWFour
import Derived.Test.YtpdcjkiejglaiaaWQPut
import Derived.Test.YtpdcjkiejglaiaaWApart
import Derived.Test.YtpdcjkiejglaiaaWArr
import Derived.Test.YtpdcjkiejglaiaaWZeros
import Derived.Test.YtpdcjkiejglaiaaWFoot
import Derived.Test.YtpdcjkiejglaiaaWKept
import Derived.Test.YtpdcjkiejglaiaaWShare
import Derived.Test.YtpdcjkiejglaiaaWN
import Derived.Test.YtpdcjkiejglaiaaWFootNe
import Derived.Test.YtpdcjkiejglaiaaWAt
import Derived.Test.YtpdcjkiejglaiaaWEqStruct
import Derived.Test.YtpdcjkiejglaiaaWRepsOne
import Derived.Test.YtpdcjkiejglaiaaWInv
import Derived.Test.YtpdcjkiejglaiaaWInvWords
import Derived.Test.YtpdcjkiejglaiaaWGuard
import Derived.Test.YtpdcjkiejglaiaaWNEv
import Derived.Test.YtpdcjkiejglaiaaWMore
import Derived.Lib.Strings
import Derived.Lib.OwnBridge
import Derived.Sort.WalkB12
import Derived.Deep.Quiet
import Derived.Laws.EntriesVeiled
import Derived.Shelf.Small.Bits
import Derived.Shelf.SlicesE.Compact
import Derived.Lib.VarintBits
import Derived.Shelf.Small.Strs
import Derived.Shelf.Strings.Search1
import Derived.Lib.OthersKept

/- Laid by a program of this session (wip/tools/own_print.py) over the translation of this seat: contracts of the functions that the statement reaches. -/
namespace Go.Proofs.Ytpdcjkiejglaiaa.Q
open Go.RowKit Go.Proofs.YtpdcjkiejglaiaaW.PrintWords Go.Proofs.YtpdcjkiejglaiaaW.PrintLast Go.Proofs.YtpdcjkiejglaiaaW.PrintMore
attribute [local go_sem] max2_int min2_int max_two min_two max_three min_three max_four min_four   -- for this text's walks alone
set_option linter.unusedVariables false
set_option linter.unusedSimpArgs false



def errW : Option Int → Value
  | none => .nilIface
  | some c => .iface 0 (.int .i64 c)
theorem errW_none : errW none = .nilIface := rfl
theorem errW_some (c : Int) : errW (some c) = .iface 0 (.int .i64 c) := rfl

theorem info3 : (Try.prog.info? 3).map (fun i => (i.zero, i.size, i.bytes)) = some (some (.int .i64 0), 1, 8) := by kernel_rfl
theorem info4 : (Try.prog.info? 4).map (fun i => (i.zero, i.size, i.bytes)) = some (some (.bool false), 1, 1) := by kernel_rfl
theorem info5 : (Try.prog.info? 5).map (fun i => (i.zero, i.size, i.bytes)) = some (some (.int .u8 0), 1, 1) := by kernel_rfl
theorem info9 : (Try.prog.info? 9).map (fun i => (i.zero, i.size, i.bytes)) = some (some (.string ⟨#[]⟩), 1, 16) := by kernel_rfl
-- the values' own types
/-! #### struct type 56 -/
structure S56 where
  f0 : Int
  f1 : Int
  f2 : Int
def z56 : S56 := ⟨(0 : Int), (0 : Int), (0 : Int)⟩
def k56 : Kd S56 := Kd.iso (Kd.pair (Kd.int .i64) (Kd.pair (Kd.int .i64) (Kd.int .u8))) (fun x : S56 => (x.f0, x.f1, x.f2))
theorem k56_open {w : World} {x : S56} {cs : List Value} (h : k56.K w x cs) : cs = [.int .i64 x.f0, .int .i64 x.f1, .int .u8 x.f2] := by
  obtain ⟨_, _, rfl, rfl, ⟨_, _, rfl, rfl, rfl⟩⟩ := h
  exact rfl
theorem k56_openM {w : World} {base : Nat} {ok : Nat → Prop} {x : S56} {cs : List Value} (h : k56.M w base ok x cs) : cs = [.int .i64 x.f0, .int .i64 x.f1, .int .u8 x.f2] := by
  obtain ⟨_, _, rfl, rfl, ⟨_, _, rfl, rfl, rfl⟩⟩ := h
  exact rfl
theorem k56_mk (w : World) (x : S56)  : k56.K w x [.int .i64 x.f0, .int .i64 x.f1, .int .u8 x.f2] := ⟨[.int .i64 x.f0], [.int .i64 x.f1, .int .u8 x.f2], rfl, rfl, ⟨[.int .i64 x.f1], [.int .u8 x.f2], rfl, rfl, rfl⟩⟩
theorem k56_mkM (w : World) (base : Nat) (ok : Nat → Prop) (x : S56)  : k56.M w base ok x [.int .i64 x.f0, .int .i64 x.f1, .int .u8 x.f2] := ⟨[.int .i64 x.f0], [.int .i64 x.f1, .int .u8 x.f2], rfl, rfl, ⟨[.int .i64 x.f1], [.int .u8 x.f2], rfl, rfl, rfl⟩⟩
def rd_T56 (xs : List S56) (i : Int) : S56 := xs.getD i.toNat z56
theorem at_T56 {w : World} {A : Option Addr} {n : Nat} {xs : List S56} (h : Kd.C k56 w A n xs) (i : Int) (h0 : 0 ≤ i) (h1 : i < n) : ∃ ad , A = some ad ∧ w.cell? (ad.add (i.toNat * 3)) = some (.int .i64 (rd_T56 xs i).f0) ∧ w.cell? ⟨(ad.add (i.toNat * 3)).block, (ad.add (i.toNat * 3)).off + 1, none⟩ = some (.int .i64 (rd_T56 xs i).f1) ∧ w.cell? ⟨(ad.add (i.toNat * 3)).block, (ad.add (i.toNat * 3)).off + 2, none⟩ = some (.int .u8 (rd_T56 xs i).f2) := by
  obtain ⟨ad, c, e, _, hK, hc0⟩ := Kd.C_get h z56 i h0 h1
  have hc : ∀ j u, c[j]? = some u → w.cell? (ad.add (i.toNat * 3 + j)) = some u := hc0
  obtain rfl := k56_open hK
  exact ⟨ad, e, hc 0 _ rfl, by rw [← add_field _ _ 1 (by omega)]; exact hc 1 _ rfl, by rw [← add_field _ _ 2 (by omega)]; exact hc 2 _ rfl⟩

end Go.Proofs.Ytpdcjkiejglaiaa.Q

/-
  Plain lemmas on texts as lists of numbers, on sums that do not wrap, and on functions with rounds. No program here.
-/
namespace Go.Proofs.Ytpdcjkiejglaiaa.Q
open Go.RowKit Go.Proofs.YtpdcjkiejglaiaaW.PrintWords Go.Proofs.YtpdcjkiejglaiaaW.PrintLast Go.Proofs.YtpdcjkiejglaiaaW.PrintMore
set_option linter.unusedVariables false
set_option linter.unusedSimpArgs false

theorem wrap_id {i : Int} (h1 : -9223372036854775808 ≤ i) (h2 : i < 9223372036854775808) : wrap64 i = i := by
  unfold wrap64
  omega

/-- the bytes of a text, as numbers -/
def li (s : ByteArray) : List Int := s.data.toList.map fun c => (c.toNat : Int)
theorem li_length (s : ByteArray) : (li s).length = s.size := by
  unfold li
  rw [List.length_map, Array.length_toList]
  rfl
theorem bt_li (s : ByteArray) (i : Int) : bt s i = (li s).getD i.toNat 0 := by
  unfold bt li
  by_cases h : i.toNat < s.size
  · rw [dif_pos h]
    have h' : i.toNat < s.data.toList.length := by rw [Array.length_toList]; exact h
    rw [List.getD_eq_getElem?_getD, List.getElem?_map, List.getElem?_eq_getElem h']
    rfl
  · rw [dif_neg h]
    have h' : ¬ i.toNat < s.data.toList.length := by rw [Array.length_toList]; exact h
    rw [List.getD_eq_getElem?_getD, List.getElem?_map, List.getElem?_eq_none (by omega)]
    rfl
theorem li_extract (s : ByteArray) (a b : Nat) : li (s.extract a b) = ((li s).drop a).take (b - a) := by
  unfold li
  rw [Lib.extract_data, List.map_take, List.map_drop]
theorem li_append (s t : ByteArray) : li (s ++ t) = li s ++ li t := by
  unfold li
  rw [ByteArray.data_append, Array.toList_append, List.map_append]
theorem toNat_inj {a b : UInt8} (h : (a.toNat : Int) = (b.toNat : Int)) : a = b := UInt8.toNat_inj.1 (by omega)
theorem map_toNat_inj : ∀ {a b : List UInt8}, a.map (fun c => (c.toNat : Int)) = b.map (fun c => (c.toNat : Int)) → a = b
  | [], [], _ => rfl
  | [], _ :: _, h => by simp at h
  | _ :: _, [], h => by simp at h
  | x :: a, y :: b, h => by
    simp only [List.map_cons, List.cons.injEq] at h
    rw [toNat_inj h.1, map_toNat_inj h.2]
theorem li_inj {a b : ByteArray} (h : li a = li b) : a = b := by
  have := map_toNat_inj h
  cases a; cases b
  simp at this ⊢
  exact this
theorem toList_li (a b : ByteArray) : a.toList = b.toList ↔ li a = li b := by
  rw [ByteArray.toList_eq, ByteArray.toList_eq]
  constructor
  · intro h; unfold li; rw [h]
  · exact fun h => map_toNat_inj h
theorem li_range (s : ByteArray) : ∀ x ∈ li s, 0 ≤ x ∧ x ≤ 255 := by
  intro x hx
  unfold li at hx
  obtain ⟨c, _, rfl⟩ := List.mem_map.1 hx
  have := c.toNat_lt
  omega
theorem beq_li (a b : ByteArray) : (a.toList == b.toList) = decide (li a = li b) := by
  rw [Bool.eq_iff_iff]
  simp only [beq_iff_eq, decide_eq_true_eq]
  exact toList_li a b
theorem size_li {s : ByteArray} {l : List Int} (h : li s = l) : s.size = l.length := by rw [← h, li_length]
/-- a text is told by its bytes -/
theorem li_ext {a b : ByteArray} (h : a.size = b.size) (hb : ∀ i : Nat, i < a.size → bt a i = bt b i) : li a = li b := by
  apply List.ext_getElem (by rw [li_length, li_length, h])
  intro i h1 h2
  have := hb i (by rw [li_length] at h1; exact h1)
  rw [bt_li, bt_li, List.getD_eq_getElem?_getD, List.getD_eq_getElem?_getD] at this
  simpa [h1, h2] using this
theorem bt_extract0 (s : ByteArray) (n : Nat) (hn : n ≤ s.size) (i : Nat) (hi : i < n) : bt (s.extract 0 n) i = bt s i := by
  rw [bt_li, bt_li, li_extract]
  simp [List.getD_eq_getElem?_getD, List.getElem?_take, hi]
theorem size_extract0 (s : ByteArray) (n : Nat) (hn : n ≤ s.size) : (s.extract 0 n).size = n := by
  rw [ByteArray.size_extract]; omega

/-! functions with rounds -/
theorem Ev.some_of {α : Type} {g : Nat → Option α} {r : α} (h : ∀ k, g k = some r) : Ev g r := ⟨0, fun k _ => h k⟩
theorem Ev.eq {α : Type} {g : Nat → Option α} {r q : α} (h : Ev g r) (e : r = q) : Ev g q := e ▸ h
theorem Ev.bind' {α β : Type} {g : Nat → Option α} {f : Nat → α → Option β} {a : α} {r : β} (h : Ev g a) (k : Ev (fun n => f n a) r) : Ev (fun n => (g n).bind fun x => f n x) r := Ev.bind h k
theorem Ev.pos {α : Type} {c : Prop} [Decidable c] {g f : Nat → Option α} {r : α} (hc : c) (h : Ev g r) : Ev (fun k => if c then g k else f k) r := by
  obtain ⟨K, h⟩ := h
  exact ⟨K, fun k hk => by show (if c then g k else f k) = some r; rw [if_pos hc]; exact h k hk⟩
theorem Ev.neg {α : Type} {c : Prop} [Decidable c] {g f : Nat → Option α} {r : α} (hc : ¬ c) (h : Ev f r) : Ev (fun k => if c then g k else f k) r := by
  obtain ⟨K, h⟩ := h
  exact ⟨K, fun k hk => by show (if c then g k else f k) = some r; rw [if_neg hc]; exact h k hk⟩

end Go.Proofs.Ytpdcjkiejglaiaa.Q

/- Laid by a program of this session (wip/tools/own_print.py) over the translation of this seat: contracts of the functions that the statement reaches. -/
namespace Go.Proofs.Ytpdcjkiejglaiaa.Q
open Go.RowKit Go.Proofs.YtpdcjkiejglaiaaW.PrintWords Go.Proofs.YtpdcjkiejglaiaaW.PrintLast Go.Proofs.YtpdcjkiejglaiaaW.PrintMore
attribute [local go_sem] max2_int min2_int max_two min_two max_three min_three max_four min_four   -- for this text's walks alone
set_option linter.unusedVariables false
set_option linter.unusedSimpArgs false

/-! ### cmp_isNaN_byte: function 102 -/
def cmp_isNaN_byte.f (a0 : Int) : Option (Bool) := some (a0 != a0)
set_option maxHeartbeats 8000000 in
set_option maxRecDepth 100000 in
theorem cmp_isNaN_byte.calls (a0 : Int) (r : Bool) (w : World) (h : cmp_isNaN_byte.f a0 = some r) :
    Calls Try.prog 102 #[.int .u8 a0] w fun e w' => e = .returned (.bool r) ∧ Drawn0 w w' := by
  have H : (some (a0 != a0)) = some r := h
  clear h
  obtain rfl := Option.some.inj H
  go_enter Try.func102, Try.ntmps102
  go_wp2
  go_ret
  exact ⟨by first | rfl | (simp; done) | (simp [*]; done), by repeat (first | exact Drawn0.refl _ | apply Drawn0.step)⟩

end Go.Proofs.Ytpdcjkiejglaiaa.Q

/- Laid by a program of this session (wip/tools/own_print.py) over the translation of this seat: contracts of the functions that the statement reaches. -/
namespace Go.Proofs.Ytpdcjkiejglaiaa.Q
open Go.RowKit Go.Proofs.YtpdcjkiejglaiaaW.PrintWords Go.Proofs.YtpdcjkiejglaiaaW.PrintLast Go.Proofs.YtpdcjkiejglaiaaW.PrintMore
attribute [local go_sem] max2_int min2_int max_two min_two max_three min_three max_four min_four   -- for this text's walks alone
set_option linter.unusedVariables false
set_option linter.unusedSimpArgs false

/-! ### cmp_Less_byte: function 86 -/
def cmp_Less_byte.f (a0 : Int) (a1 : Int) : Option (Bool) := (cmp_isNaN_byte.f a0).bind fun t101 => (if t101 = true then ((cmp_isNaN_byte.f a1).bind fun t102 => (if t102 = true then (some (decide (a0 < a1))) else (some true))) else (some (decide (a0 < a1))))
set_option maxHeartbeats 8000000 in
set_option maxRecDepth 100000 in
theorem cmp_Less_byte.calls (a0 : Int) (a1 : Int) (r : Bool) (w : World) (h : cmp_Less_byte.f a0 a1 = some r) :
    Calls Try.prog 86 #[.int .u8 a0, .int .u8 a1] w fun e w' => e = .returned (.bool r) ∧ Drawn0 w w' := by
  have H : ((cmp_isNaN_byte.f a0).bind fun t101 => (if t101 = true then ((cmp_isNaN_byte.f a1).bind fun t102 => (if t102 = true then (some (decide (a0 < a1))) else (some true))) else (some (decide (a0 < a1))))) = some r := h
  clear h
  replace H := Option.bind_eq_some_iff.mp H
  obtain ⟨t101, A30, H⟩ := H
  replace H : (if t101 = true then ((cmp_isNaN_byte.f a1).bind fun t102 => (if t102 = true then (some (decide (a0 < a1))) else (some true))) else (some (decide (a0 < a1)))) = some r := H
  have A3 := Aside0.mk A30
  clear A30
  by_cases c4 : t101 = true
  · subst c4
    have H1 : ((cmp_isNaN_byte.f a1).bind fun t102 => (if t102 = true then (some (decide (a0 < a1))) else (some true))) = some r := by rw [if_pos rfl] at H; exact H
    clear H
    have H := H1
    clear H1
    replace H := Option.bind_eq_some_iff.mp H
    obtain ⟨t102, A50, H⟩ := H
    replace H : (if t102 = true then (some (decide (a0 < a1))) else (some true)) = some r := H
    have A5 := Aside0.mk A50
    clear A50
    by_cases c6 : t102 = true
    · subst c6
      have H1 : (some (decide (a0 < a1))) = some r := by rw [if_pos rfl] at H; exact H
      clear H
      have H := H1
      clear H1
      obtain rfl := Option.some.inj H
      go_enter Try.func86, Try.ntmps86
      go_wp2_with (first | ((with_reducible refine gate_callee (f := 102) rfl ?_); refine goesL_ (some 6) rfl rfl Try.func102 (by kernel_rfl) rfl #[.int .u8 a0] rfl (by (try simp only [List.map_toArray, List.map_cons, List.map_nil]); first | done | rfl | (simp only [List.length_drop, List.length_take]; rfl)) ?_; (with_reducible refine (cmp_isNaN_byte.calls a0 true _ A3.out).mono ?_); rintro e w' ⟨rfl, ⟨nd, rfl⟩⟩; refine ⟨_, rfl, ?_⟩) | (go_at_call 102; (with_reducible refine (cmp_isNaN_byte.calls a1 true _ A5.out).mono ?_); rintro e w' ⟨rfl, ⟨nd, rfl⟩⟩))
      go_ret
      exact ⟨by first | rfl | (simp; done) | (simp [*]; done), by repeat (first | exact Drawn0.refl _ | apply Drawn0.step)⟩
    · replace c6 := Bool.eq_false_iff.mpr c6
      subst c6
      have H1 : (some true) = some r := by rw [if_neg (show ¬ (false = true) by decide)] at H; exact H
      clear H
      have H := H1
      clear H1
      obtain rfl := Option.some.inj H
      go_enter Try.func86, Try.ntmps86
      go_wp2_with (first | ((with_reducible refine gate_callee (f := 102) rfl ?_); refine goesL_ (some 6) rfl rfl Try.func102 (by kernel_rfl) rfl #[.int .u8 a0] rfl (by (try simp only [List.map_toArray, List.map_cons, List.map_nil]); first | done | rfl | (simp only [List.length_drop, List.length_take]; rfl)) ?_; (with_reducible refine (cmp_isNaN_byte.calls a0 true _ A3.out).mono ?_); rintro e w' ⟨rfl, ⟨nd, rfl⟩⟩; refine ⟨_, rfl, ?_⟩) | (go_at_call 102; (with_reducible refine (cmp_isNaN_byte.calls a1 false _ A5.out).mono ?_); rintro e w' ⟨rfl, ⟨nd, rfl⟩⟩))
      go_ret
      exact ⟨by first | rfl | (simp; done) | (simp [*]; done), by repeat (first | exact Drawn0.refl _ | apply Drawn0.step)⟩
  · replace c4 := Bool.eq_false_iff.mpr c4
    subst c4
    have H1 : (some (decide (a0 < a1))) = some r := by rw [if_neg (show ¬ (false = true) by decide)] at H; exact H
    clear H
    have H := H1
    clear H1
    obtain rfl := Option.some.inj H
    go_enter Try.func86, Try.ntmps86
    go_wp2_with (first | ((with_reducible refine gate_callee (f := 102) rfl ?_); refine goesL_ (some 6) rfl rfl Try.func102 (by kernel_rfl) rfl #[.int .u8 a0] rfl (by (try simp only [List.map_toArray, List.map_cons, List.map_nil]); first | done | rfl | (simp only [List.length_drop, List.length_take]; rfl)) ?_; (with_reducible refine (cmp_isNaN_byte.calls a0 false _ A3.out).mono ?_); rintro e w' ⟨rfl, ⟨nd, rfl⟩⟩; refine ⟨_, rfl, ?_⟩))
    go_ret
    exact ⟨by first | rfl | (simp; done) | (simp [*]; done), by repeat (first | exact Drawn0.refl _ | apply Drawn0.step)⟩

end Go.Proofs.Ytpdcjkiejglaiaa.Q

/-
  A row of bytes in place, told by 'Holds' and 'putRow': the words for walks over it.
-/
namespace Go.Proofs.Ytpdcjkiejglaiaa.Q
open Go.RowKit Go.Proofs.YtpdcjkiejglaiaaW.PrintWords Go.Proofs.YtpdcjkiejglaiaaW.PrintLast Go.Proofs.YtpdcjkiejglaiaaW.PrintMore
set_option linter.unusedVariables false
set_option linter.unusedSimpArgs false

abbrev enc8 : Int → Value := Value.int .u8
theorem less_any (x y : Int) (w : World) : Calls Try.prog 86 #[.int .u8 x, .int .u8 y] w fun e w' => e = .returned (.bool (decide (x < y))) ∧ Drawn0 w w' :=
  cmp_Less_byte.calls x y (decide (x < y)) w (by unfold cmp_Less_byte.f cmp_isNaN_byte.f; simp)

/-- the row as it stands in a world that came of w: a cell of it -/
theorem put_cell {w wr : World} {g n N : Nat} {d dk : Array Int} (hH : Sort.Holds enc8 w g 0 d) (hd : d.size = N) (hk : dk.size = N) (hwr : wr = Sort.putRow enc8 (Sort.ahead w n) g 0 dk) (i : Nat) (hi : i < N) :
    wr.cell? ⟨g, i, none⟩ = some (.int .u8 dk[i]!) ∧ wr.frozen? ⟨g, i, none⟩ = false := by
  have h := Sort.holds_putRow enc8 (Sort.ahead w n) g 0 d dk (Sort.holds_ahead _ _ _ _ _ _ hH) (by omega)
  rw [← hwr] at h
  have := h i (by omega)
  rw [Nat.zero_add] at this
  exact this
theorem put_self {w : World} {g : Nat} {d : Array Int} (hH : Sort.Holds enc8 w g 0 d) : w = Sort.putRow enc8 (Sort.ahead w 0) g 0 d := (Sort.putRow_self enc8 w g 0 d hH).symm
theorem put_drewN {w wr : World} {g n : Nat} {dk : Array Int} (hwr : wr = Sort.putRow enc8 (Sort.ahead w n) g 0 dk) (m : Nat) : wr.drewN m = Sort.putRow enc8 (Sort.ahead w (n + m)) g 0 dk := by
  subst hwr
  show Sort.ahead (Sort.putRow enc8 (Sort.ahead w n) g 0 dk) m = _
  rw [Sort.putRow_ahead, Sort.putRow_ahead, Sort.ahead_ahead]
theorem put_swap {w wr : World} {g n : Nat} {dk : Array Int} (hwr : wr = Sort.putRow enc8 (Sort.ahead w n) g 0 dk) (i j : Nat) (hi : i < dk.size) (hj : j < dk.size) (x y : Int) (hx : dk[i]! = x) (hy : dk[j]! = y) :
    ((wr.setCell ⟨g, i, none⟩ (.int .u8 y)).setCell ⟨g, j, none⟩ (.int .u8 x)).drew = Sort.putRow enc8 (Sort.ahead w (n + 1)) g 0 (Sort.swp dk i j) := by
  have := swap_world enc8 hi hj hwr (x := .int .u8 y) (y := .int .u8 x) (by rw [hy]) (by rw [hx])
  rw [Nat.zero_add, Nat.zero_add] at this
  exact this
theorem wrapU {a b : Int} (h : a = b) (h1 : -9223372036854775808 ≤ b) (h2 : b < 9223372036854775808) : wrap64 a = b := by rw [h, wrap_id h1 h2]

end Go.Proofs.Ytpdcjkiejglaiaa.Q

/-
  partitionOrdered on bytes: it returns a place between its ends, and the row stays one of the same length.
-/
namespace Go.Proofs.Ytpdcjkiejglaiaa.Q
open Go.RowKit Go.Proofs.YtpdcjkiejglaiaaW.PrintWords Go.Proofs.YtpdcjkiejglaiaaW.PrintLast Go.Proofs.YtpdcjkiejglaiaaW.PrintMore
set_option linter.unusedVariables false
set_option linter.unusedSimpArgs false

set_option maxHeartbeats 16000000 in
set_option maxRecDepth 100000 in
theorem partition_any (g cap N a b p : Nat) (d : Array Int) (w : World) (hH : Sort.Holds enc8 w g 0 d) (hd : d.size = N) (hN : N ≤ 1000) (hap : a < p) (hpb : p < b) (hb : b ≤ N) :
    Calls Try.prog 88 #[.slice (some ⟨g, 0, none⟩) N cap, .int .i64 a, .int .i64 b, .int .i64 p] w fun e w' => ∃ (j : Nat) (r : Bool) (n : Nat) (dk : Array Int), e = .returned (.tuple #[.int .i64 j, .bool r]) ∧ a ≤ j ∧ j < b ∧ dk.size = N ∧ w' = Sort.putRow enc8 (Sort.ahead w n) g 0 dk := by
  have HH := Aside0.mk hH
  have HD := Aside0.mk hd
  have HN := Aside0.mk hN
  have HB := Aside0.mk hb
  have HAP := Aside0.mk hap
  have HPB := Aside0.mk hpb
  clear hH hd hN hb hap hpb
  obtain ⟨d0, n0, hk0, hwr0⟩ : ∃ d0 n0, Aside0 (d0.size = N) ∧ Aside (w = Sort.putRow enc8 (Sort.ahead w n0) g 0 d0) := ⟨d, 0, HD, put_self HH.out⟩
  obtain ⟨xa, hxa⟩ : ∃ xa, d0[a]! = xa := ⟨_, rfl⟩
  obtain ⟨xp, hxp⟩ : ∃ xp, d0[p]! = xp := ⟨_, rfl⟩
  have la : (a : Int) < (N : Int) := by have := HAP.out; have := HPB.out; have := HB.out; omega
  have lp : (p : Int) < (N : Int) := by have := HPB.out; have := HB.out; omega
  obtain ⟨a1, ha1⟩ : ∃ a1, a1 = a + 1 := ⟨_, rfl⟩
  obtain ⟨b1, hb1⟩ : ∃ b1, b1 + 1 = b := ⟨b - 1, by have := HPB.out; omega⟩
  have hA1 : wrap64 ((a : Int) + 1) = (a1 : Int) := by have := HAP.out; have := HPB.out; have := HB.out; have := HN.out; rw [wrap_id (by omega) (by omega)]; omega
  have hB1 : wrap64 ((b : Int) - 1) = (b1 : Int) := by have := HPB.out; have := HB.out; have := HN.out; rw [wrap_id (by omega) (by omega)]; omega
  have HA1w := Aside0.mk hA1
  have HB1w := Aside0.mk hB1
  clear hA1 hB1
  have HA1 := Aside0.mk ha1
  have HB1 := Aside0.mk hb1
  clear ha1 hb1
  go_enter Try.func88, Try.ntmps88
  go_wp2
  have hvr1 : Aside (w = Sort.putRow enc8 (Sort.ahead w _) g 0 d0) := hwr0.out
  have hv1 : w = w := rfl
  have si1 : w.cell? ⟨g, a, none⟩ = some (.int .u8 xa) := by have h := (put_cell HH.out HD.out hk0.out hvr1.out a (by have := HAP.out; have := HPB.out; have := HB.out; omega)).1; rw [hxa] at h; exact h
  have ti1 : w.frozen? ⟨g, a, none⟩ = false := (put_cell HH.out HD.out hk0.out hvr1.out a (by have := HAP.out; have := HPB.out; have := HB.out; omega)).2
  have sj1 : w.cell? ⟨g, p, none⟩ = some (.int .u8 xp) := by have h := (put_cell HH.out HD.out hk0.out hvr1.out p (by have := HPB.out; have := HB.out; omega)).1; rw [hxp] at h; exact h
  have tj1 : w.frozen? ⟨g, p, none⟩ = false := (put_cell HH.out HD.out hk0.out hvr1.out p (by have := HPB.out; have := HB.out; omega)).2
  have hne1 : ¬ a = p := by have := HAP.out; omega
  have hnf1 : ¬ p = a := fun h => hne1 h.symm
  try clear hv1
  go_region
  have hz1 := put_swap hvr1.out a p (by rw [hk0.out]; exact (by have := HAP.out; have := HPB.out; have := HB.out; omega)) (by rw [hk0.out]; exact (by have := HPB.out; have := HB.out; omega)) xa xp hxa hxp
  rw [hz1]
  clear hz1
  have hk1 : Aside0 ((Sort.swp d0 a p).size = N) := Aside0.mk (by rw [Sort.size_swp]; exact hk0.out)
  generalize Sort.swp d0 a p = d1 at hk1 ⊢
  generalize hw1 : Sort.putRow enc8 (Sort.ahead w _) g 0 d1 = w1
  have hwr1 : Aside (w1 = Sort.putRow enc8 (Sort.ahead w _) g 0 d1) := hw1.symm
  clear hw1
  clear hxa hxp hvr1 si1 ti1 sj1 tj1 hne1 hnf1
  obtain ⟨xaw1, hxaw1⟩ : ∃ x, d1[a]! = x := ⟨_, rfl⟩
  have caw1 := (put_cell HH.out HD.out hk1.out hwr1.out a (by have := HAP.out; have := HPB.out; have := HB.out; omega)).1
  rw [hxaw1] at caw1
  have HIJw1 : Aside0 (a1 ≤ b1 + 1) := Aside0.mk (by have := HA1.out; have := HB1.out; have := HAP.out; have := HPB.out; omega)
  have HJBw1 : Aside0 (b1 < b) := Aside0.mk (by have := HB1.out; omega)
  go_wp2
  go_loopg [10] (b1 + 1 - a1) (fun gk v wv => ∃ (i : Nat) (z : Int), v = .int .i64 z ∧ Aside0 (z = (i : Int)) ∧ Aside0 (a1 ≤ i) ∧ Aside0 (gk + i = b1 + 1) ∧ Aside0 (∃ q, wv = w1.drewN q))
  case atStart => exact ⟨a1, _, rfl, ⟨by first | exact HA1w.out | rfl⟩, ⟨Nat.le_refl _⟩, ⟨by have := HIJw1.out; omega⟩, ⟨⟨0, rfl⟩⟩⟩
  case round =>
    obtain ⟨iA, zA, rfl, hzA, hgeA, hgA, hwA⟩ := hrel
    obtain rfl : zA = (iA : Int) := hzA.out
    clear hzA
    obtain ⟨qA, rfl⟩ := hwA.out
    clear hwA
    by_cases hijA : iA ≤ b1
    · have hijzA : (iA : Int) ≤ (b1 : Int) := by omega
      have hijyA : (iA : Int) ≤ wrap64 ((b : Int) - 1) := by rw [HB1w.out]; omega
      have ciA := (put_cell HH.out HD.out hk1.out hwr1.out iA (by have := HJBw1.out; have := HB.out; have := HPB.out; omega)).1
      have fiA := (put_cell HH.out HD.out hk1.out hwr1.out iA (by have := HJBw1.out; have := HB.out; have := HPB.out; omega)).2
      obtain ⟨xiA, hxiA⟩ : ∃ xiA, d1[iA]! = xiA := ⟨_, rfl⟩
      rw [hxiA] at ciA
      have liA : ((iA : Nat) : Int) < (N : Int) := by have h : iA < N := (by have := HJBw1.out; have := HB.out; have := HPB.out; omega); omega
      by_cases hcA : xiA < xaw1
      · have hbA : decide (xiA < xaw1) = true := decide_eq_true hcA
        obtain ⟨nA, hnA⟩ : ∃ n, n = iA + 1 := ⟨_, rfl⟩
        have hnwA : wrap64 ((iA : Int) + 1) = (nA : Int) := by have := HJBw1.out; have := HN.out; have := HB.out; rw [wrap_id (by omega) (by omega)]; omega
        have HNXA := Aside0.mk hnA
        clear hnA
        go_wp2
        go_quiet ((go_at_call 86; refine (less_any xiA xaw1 _).mono ?_; rw [hbA]; rintro e w' ⟨rfl, ⟨nd, rfl⟩⟩; with_reducible first | exact ⟨rfl, _, (World.drewN_drewN _ _ _).trans (congrArg w1.drewN (Nat.add_assoc _ _ _))⟩ | exact ⟨rfl, _, World.drewN_drewN _ _ _⟩ | exact ⟨rfl, _, rfl⟩))
        go_wp2
        go_roundg (b1 + 1 - nA)
        case measure => have := hgA.out; have := HNXA.out; omega
        case rel => exact ⟨nA, _, rfl, ⟨by first | exact hnwA | rfl⟩, ⟨by have := hgeA.out; have := HNXA.out; omega⟩, ⟨by have := HNXA.out; omega⟩, ⟨by with_reducible first | exact ⟨_, rfl⟩ | exact ⟨_, World.drewN_drewN _ _ _⟩⟩⟩
      · have hbA : decide (xiA < xaw1) = false := decide_eq_false hcA
        go_wp2
        go_quiet ((go_at_call 86; refine (less_any xiA xaw1 _).mono ?_; rw [hbA]; rintro e w' ⟨rfl, ⟨nd, rfl⟩⟩; with_reducible first | exact ⟨rfl, _, (World.drewN_drewN _ _ _).trans (congrArg w1.drewN (Nat.add_assoc _ _ _))⟩ | exact ⟨rfl, _, World.drewN_drewN _ _ _⟩ | exact ⟨rfl, _, rfl⟩))
        go_wp2
        have HIw1 := Aside0.mk (show 1 ≤ iA by have := hgeA.out; have := HA1.out; omega)
        go_loopg [11] (b1 + 1 - iA) (fun gk v wv => ∃ (j : Nat) (z : Int), v = .int .i64 z ∧ Aside0 (z = (j : Int)) ∧ Aside0 (j ≤ b1) ∧ Aside0 (gk + iA = j + 1) ∧ Aside0 (∃ q, wv = w1.drewN q))
        case atStart => exact ⟨b1, _, rfl, ⟨by first | exact HB1w.out | rfl⟩, ⟨Nat.le_refl _⟩, ⟨by omega⟩, ⟨by with_reducible first | exact ⟨_, rfl⟩ | exact ⟨_, World.drewN_drewN _ _ _⟩⟩⟩
        case round =>
          obtain ⟨jB, zB, rfl, hzB, hleB, hgB, hwB⟩ := hrel
          obtain rfl : zB = (jB : Int) := hzB.out
          clear hzB
          obtain ⟨qB, rfl⟩ := hwB.out
          clear hwB
          by_cases hijB : iA ≤ jB
          · have hijzB : (iA : Int) ≤ (jB : Int) := by omega
            have hijxB : ((jB : Int) < (iA : Int)) = False := eq_false (by omega)
            have cjB := (put_cell HH.out HD.out hk1.out hwr1.out jB (by have := hleB.out; have := HJBw1.out; have := HB.out; have := HPB.out; omega)).1
            have fjB := (put_cell HH.out HD.out hk1.out hwr1.out jB (by have := hleB.out; have := HJBw1.out; have := HB.out; have := HPB.out; omega)).2
            obtain ⟨xjB, hxjB⟩ : ∃ xjB, d1[jB]! = xjB := ⟨_, rfl⟩
            rw [hxjB] at cjB
            have ljB : ((jB : Nat) : Int) < (N : Int) := by have h : jB < N := (by have := hleB.out; have := HJBw1.out; have := HB.out; have := HPB.out; omega); omega
            by_cases hcB : xjB < xaw1
            · have hbB : decide (xjB < xaw1) = true := decide_eq_true hcB
              go_wp2
              go_quiet ((go_at_call 86; refine (less_any xjB xaw1 _).mono ?_; rw [hbB]; rintro e w' ⟨rfl, ⟨nd, rfl⟩⟩; with_reducible first | exact ⟨rfl, _, (World.drewN_drewN _ _ _).trans (congrArg w1.drewN (Nat.add_assoc _ _ _))⟩ | exact ⟨rfl, _, World.drewN_drewN _ _ _⟩ | exact ⟨rfl, _, rfl⟩))
              go_wp2
              have HI4 := Aside0.mk (show 1 ≤ jB by have := hgeA.out; have := HA1.out; omega)
              have HLT4 : Aside0 (iA < jB) := Aside0.mk (Nat.lt_of_le_of_ne hijB (by intro e; have e2 : xiA = xjB := (by rw [← hxiA, e, hxjB]); omega))
              obtain ⟨ni4, hni4⟩ : ∃ n, n = iA + 1 := ⟨_, rfl⟩
              obtain ⟨nj4, hnj4⟩ : ∃ n, n + 1 = jB := ⟨jB - 1, by have := HI4.out; omega⟩
              have hnwi4 : wrap64 ((iA : Int) + 1) = (ni4 : Int) := by have := HN.out; have := HB.out; have := HJBw1.out; have := HLT4.out; have := hleB.out; rw [wrap_id (by omega) (by omega)]; omega
              have hnwj4 : wrap64 ((jB : Int) - 1) = (nj4 : Int) := by have := HN.out; have := HB.out; have := HJBw1.out; have := HLT4.out; have := hleB.out; rw [wrap_id (by omega) (by omega)]; omega
              have HNI4 := Aside0.mk hni4
              have HNJ4 := Aside0.mk hnj4
              have HNWI4 := Aside0.mk hnwi4
              have HNWJ4 := Aside0.mk hnwj4
              clear hni4 hnj4 hnwi4 hnwj4
              try rw [World.drewN_drewN]
              generalize hv4 : w1.drewN _ = v4
              have hvr4 : Aside (v4 = Sort.putRow enc8 (Sort.ahead w _) g 0 d1) := hv4.symm.trans (put_drewN hwr1.out _)
              have si4 : v4.cell? ⟨g, iA, none⟩ = some (.int .u8 xiA) := by have h := (put_cell HH.out HD.out hk1.out hvr4.out iA (by have := HLT4.out; have := hleB.out; have := HJBw1.out; have := HB.out; omega)).1; rw [hxiA] at h; exact h
              have ti4 : v4.frozen? ⟨g, iA, none⟩ = false := (put_cell HH.out HD.out hk1.out hvr4.out iA (by have := HLT4.out; have := hleB.out; have := HJBw1.out; have := HB.out; omega)).2
              have sj4 : v4.cell? ⟨g, jB, none⟩ = some (.int .u8 xjB) := by have h := (put_cell HH.out HD.out hk1.out hvr4.out jB (by have := hleB.out; have := HJBw1.out; have := HB.out; omega)).1; rw [hxjB] at h; exact h
              have tj4 : v4.frozen? ⟨g, jB, none⟩ = false := (put_cell HH.out HD.out hk1.out hvr4.out jB (by have := hleB.out; have := HJBw1.out; have := HB.out; omega)).2
              have hne4 : ¬ iA = jB := by have := HLT4.out; omega
              have hnf4 : ¬ jB = iA := fun h => hne4 h.symm
              try clear hv4
              go_region
              have hz4 := put_swap hvr4.out iA jB (by rw [hk1.out]; exact (by have := HLT4.out; have := hleB.out; have := HJBw1.out; have := HB.out; omega)) (by rw [hk1.out]; exact (by have := hleB.out; have := HJBw1.out; have := HB.out; omega)) xiA xjB hxiA hxjB
              rw [hz4]
              clear hz4
              have hk4 : Aside0 ((Sort.swp d1 iA jB).size = N) := Aside0.mk (by rw [Sort.size_swp]; exact hk1.out)
              generalize Sort.swp d1 iA jB = d4 at hk4 ⊢
              generalize hw4 : Sort.putRow enc8 (Sort.ahead w _) g 0 d4 = w4
              have hwr4 : Aside (w4 = Sort.putRow enc8 (Sort.ahead w _) g 0 d4) := hw4.symm
              clear hw4
              go_wp2
              have hdec4 : decide ((jB : Int) < (iA : Int)) = false := decide_eq_false (by have := HLT4.out; omega)
              try simp only [hdec4]
              clear hdec4
              try clear hijzB
              try clear hijB
              try clear hbB
              try clear hcB
              try clear hijzA
              try clear hijA
              try clear hijyA
              try clear hbA
              try clear hcA
              try clear hne4
              try clear hnf4
              go_loopg [10, 11] (nj4 + 1 - ni4) (fun gk v10 v11 wr => ∃ (i j : Nat) (z y : Int) (n : Nat) (dk : Array Int), v10 = .int .i64 z ∧ v11 = .int .i64 y ∧ Aside0 (z = (i : Int)) ∧ Aside0 (y = (j : Int)) ∧ Aside0 (a1 ≤ i) ∧ Aside0 (i ≤ j + 1) ∧ Aside0 (j ≤ b1) ∧ Aside0 (gk + i = j + 1) ∧ Aside0 (dk.size = N) ∧ Aside (wr = Sort.putRow enc8 (Sort.ahead w n) g 0 dk))
              case atStart => exact ⟨ni4, nj4, _, _, _, _, rfl, rfl, ⟨by first | exact HNWI4.out | rfl⟩, ⟨by first | exact HNWJ4.out | rfl⟩, ⟨by have := hgeA.out; have := HNI4.out; omega⟩, ⟨by have := HNI4.out; have := HNJ4.out; have := HLT4.out; omega⟩, ⟨by have := hleB.out; have := HNJ4.out; omega⟩, ⟨by have h : ni4 ≤ nj4 + 1 := (by have := HNI4.out; have := HNJ4.out; have := HLT4.out; omega); omega⟩, hk4, hwr4⟩
              case round =>
                obtain ⟨i3, j3, z3, y3, n3, dk, rfl, rfl, hz3, hy3, hge3, hle3, hjb3, hg3, hk3, hwr3⟩ := hrel
                obtain rfl : z3 = (i3 : Int) := hz3.out
                obtain rfl : y3 = (j3 : Int) := hy3.out
                clear hz3 hy3
                obtain ⟨xawr, hxawr⟩ : ∃ x, dk[a]! = x := ⟨_, rfl⟩
                have cawr := (put_cell HH.out HD.out hk3.out hwr3.out a (by have := HAP.out; have := HPB.out; have := HB.out; omega)).1
                rw [hxawr] at cawr
                have HIJwr : Aside0 (i3 ≤ j3 + 1) := hle3
                have HJBwr : Aside0 (j3 < b) := Aside0.mk (by have := HB1.out; have := hjb3.out; omega)
                go_wp2
                go_loopg [10] (j3 + 1 - i3) (fun gk v wv => ∃ (i : Nat) (z : Int), v = .int .i64 z ∧ Aside0 (z = (i : Int)) ∧ Aside0 (i3 ≤ i) ∧ Aside0 (gk + i = j3 + 1) ∧ Aside0 (∃ q, wv = wr.drewN q))
                case atStart => exact ⟨i3, _, rfl, ⟨rfl⟩, ⟨Nat.le_refl _⟩, ⟨by have := HIJwr.out; omega⟩, ⟨⟨0, rfl⟩⟩⟩
                case round =>
                  obtain ⟨iC, zC, rfl, hzC, hgeC, hgC, hwC⟩ := hrel
                  obtain rfl : zC = (iC : Int) := hzC.out
                  clear hzC
                  obtain ⟨qC, rfl⟩ := hwC.out
                  clear hwC
                  by_cases hijC : iC ≤ j3
                  · have hijzC : (iC : Int) ≤ (j3 : Int) := by omega
                    have ciC := (put_cell HH.out HD.out hk3.out hwr3.out iC (by have := HJBwr.out; have := HB.out; have := HPB.out; omega)).1
                    have fiC := (put_cell HH.out HD.out hk3.out hwr3.out iC (by have := HJBwr.out; have := HB.out; have := HPB.out; omega)).2
                    obtain ⟨xiC, hxiC⟩ : ∃ xiC, dk[iC]! = xiC := ⟨_, rfl⟩
                    rw [hxiC] at ciC
                    have liC : ((iC : Nat) : Int) < (N : Int) := by have h : iC < N := (by have := HJBwr.out; have := HB.out; have := HPB.out; omega); omega
                    by_cases hcC : xiC < xawr
                    · have hbC : decide (xiC < xawr) = true := decide_eq_true hcC
                      obtain ⟨nC, hnC⟩ : ∃ n, n = iC + 1 := ⟨_, rfl⟩
                      have hnwC : wrap64 ((iC : Int) + 1) = (nC : Int) := by have := HJBwr.out; have := HN.out; have := HB.out; rw [wrap_id (by omega) (by omega)]; omega
                      have HNXC := Aside0.mk hnC
                      clear hnC
                      go_wp2
                      go_quiet ((go_at_call 86; refine (less_any xiC xawr _).mono ?_; rw [hbC]; rintro e w' ⟨rfl, ⟨nd, rfl⟩⟩; with_reducible first | exact ⟨rfl, _, (World.drewN_drewN _ _ _).trans (congrArg wr.drewN (Nat.add_assoc _ _ _))⟩ | exact ⟨rfl, _, World.drewN_drewN _ _ _⟩ | exact ⟨rfl, _, rfl⟩))
                      go_wp2
                      go_roundg (j3 + 1 - nC)
                      case measure => have := hgC.out; have := HNXC.out; omega
                      case rel => exact ⟨nC, _, rfl, ⟨by first | exact hnwC | rfl⟩, ⟨by have := hgeC.out; have := HNXC.out; omega⟩, ⟨by have := HNXC.out; omega⟩, ⟨by with_reducible first | exact ⟨_, rfl⟩ | exact ⟨_, World.drewN_drewN _ _ _⟩⟩⟩
                    · have hbC : decide (xiC < xawr) = false := decide_eq_false hcC
                      go_wp2
                      go_quiet ((go_at_call 86; refine (less_any xiC xawr _).mono ?_; rw [hbC]; rintro e w' ⟨rfl, ⟨nd, rfl⟩⟩; with_reducible first | exact ⟨rfl, _, (World.drewN_drewN _ _ _).trans (congrArg wr.drewN (Nat.add_assoc _ _ _))⟩ | exact ⟨rfl, _, World.drewN_drewN _ _ _⟩ | exact ⟨rfl, _, rfl⟩))
                      go_wp2
                      have HIwr := Aside0.mk (show 1 ≤ iC by have := hgeC.out; have := hge3.out; have := HA1.out; omega)
                      go_loopg [11] (j3 + 1 - iC) (fun gk v wv => ∃ (j : Nat) (z : Int), v = .int .i64 z ∧ Aside0 (z = (j : Int)) ∧ Aside0 (j ≤ j3) ∧ Aside0 (gk + iC = j + 1) ∧ Aside0 (∃ q, wv = wr.drewN q))
                      case atStart => exact ⟨j3, _, rfl, ⟨by first | rfl | assumption⟩, ⟨Nat.le_refl _⟩, ⟨by omega⟩, ⟨by with_reducible first | exact ⟨_, rfl⟩ | exact ⟨_, World.drewN_drewN _ _ _⟩⟩⟩
                      case round =>
                        obtain ⟨jF, zF, rfl, hzF, hleF, hgF, hwF⟩ := hrel
                        obtain rfl : zF = (jF : Int) := hzF.out
                        clear hzF
                        obtain ⟨qF, rfl⟩ := hwF.out
                        clear hwF
                        by_cases hijF : iC ≤ jF
                        · have hijzF : (iC : Int) ≤ (jF : Int) := by omega
                          have hijxF : ((jF : Int) < (iC : Int)) = False := eq_false (by omega)
                          have cjF := (put_cell HH.out HD.out hk3.out hwr3.out jF (by have := hleF.out; have := HJBwr.out; have := HB.out; have := HPB.out; omega)).1
                          have fjF := (put_cell HH.out HD.out hk3.out hwr3.out jF (by have := hleF.out; have := HJBwr.out; have := HB.out; have := HPB.out; omega)).2
                          obtain ⟨xjF, hxjF⟩ : ∃ xjF, dk[jF]! = xjF := ⟨_, rfl⟩
                          rw [hxjF] at cjF
                          have ljF : ((jF : Nat) : Int) < (N : Int) := by have h : jF < N := (by have := hleF.out; have := HJBwr.out; have := HB.out; have := HPB.out; omega); omega
                          by_cases hcF : xjF < xawr
                          · have hbF : decide (xjF < xawr) = true := decide_eq_true hcF
                            go_wp2
                            go_quiet ((go_at_call 86; refine (less_any xjF xawr _).mono ?_; rw [hbF]; rintro e w' ⟨rfl, ⟨nd, rfl⟩⟩; with_reducible first | exact ⟨rfl, _, (World.drewN_drewN _ _ _).trans (congrArg wr.drewN (Nat.add_assoc _ _ _))⟩ | exact ⟨rfl, _, World.drewN_drewN _ _ _⟩ | exact ⟨rfl, _, rfl⟩))
                            go_wp2
                            have HI7 := Aside0.mk (show 1 ≤ jF by have := hgeC.out; have := hge3.out; have := HA1.out; omega)
                            have hlj7 := hleF.out
                            have HLT7 : Aside0 (iC < jF) := Aside0.mk (Nat.lt_of_le_of_ne hijF (by intro e; have e2 : xiC = xjF := (by rw [← hxiC, e, hxjF]); omega))
                            obtain ⟨ni7, hni7⟩ : ∃ n, n = iC + 1 := ⟨_, rfl⟩
                            obtain ⟨nj7, hnj7⟩ : ∃ n, n + 1 = jF := ⟨jF - 1, by have := HI7.out; omega⟩
                            have hnwi7 : wrap64 ((iC : Int) + 1) = (ni7 : Int) := by have := HN.out; have := HB.out; have := HJBwr.out; have := HLT7.out; rw [wrap_id (by omega) (by omega)]; omega
                            have hnwj7 : wrap64 ((jF : Int) - 1) = (nj7 : Int) := by have := HN.out; have := HB.out; have := HJBwr.out; have := HLT7.out; rw [wrap_id (by omega) (by omega)]; omega
                            have HNI7 := Aside0.mk hni7
                            have HNJ7 := Aside0.mk hnj7
                            have HNWI7 := Aside0.mk hnwi7
                            have HNWJ7 := Aside0.mk hnwj7
                            clear hni7 hnj7 hnwi7 hnwj7
                            try rw [World.drewN_drewN]
                            generalize hv7 : wr.drewN _ = v7
                            have hvr7 : Aside (v7 = Sort.putRow enc8 (Sort.ahead w _) g 0 dk) := hv7.symm.trans (put_drewN hwr3.out _)
                            have si7 : v7.cell? ⟨g, iC, none⟩ = some (.int .u8 xiC) := by have h := (put_cell HH.out HD.out hk3.out hvr7.out iC (by have := HLT7.out; have := hleF.out; have := HJBwr.out; have := HB.out; omega)).1; rw [hxiC] at h; exact h
                            have ti7 : v7.frozen? ⟨g, iC, none⟩ = false := (put_cell HH.out HD.out hk3.out hvr7.out iC (by have := HLT7.out; have := hleF.out; have := HJBwr.out; have := HB.out; omega)).2
                            have sj7 : v7.cell? ⟨g, jF, none⟩ = some (.int .u8 xjF) := by have h := (put_cell HH.out HD.out hk3.out hvr7.out jF (by have := hleF.out; have := HJBwr.out; have := HB.out; omega)).1; rw [hxjF] at h; exact h
                            have tj7 : v7.frozen? ⟨g, jF, none⟩ = false := (put_cell HH.out HD.out hk3.out hvr7.out jF (by have := hleF.out; have := HJBwr.out; have := HB.out; omega)).2
                            have hne7 : ¬ iC = jF := by have := HLT7.out; omega
                            have hnf7 : ¬ jF = iC := fun h => hne7 h.symm
                            try clear hv7
                            go_region
                            have hz7 := put_swap hvr7.out iC jF (by rw [hk3.out]; exact (by have := HLT7.out; have := hleF.out; have := HJBwr.out; have := HB.out; omega)) (by rw [hk3.out]; exact (by have := hleF.out; have := HJBwr.out; have := HB.out; omega)) xiC xjF hxiC hxjF
                            rw [hz7]
                            clear hz7
                            have hk7 : Aside0 ((Sort.swp dk iC jF).size = N) := Aside0.mk (by rw [Sort.size_swp]; exact hk3.out)
                            generalize Sort.swp dk iC jF = d7 at hk7 ⊢
                            generalize hw7 : Sort.putRow enc8 (Sort.ahead w _) g 0 d7 = w7
                            have hwr7 : Aside (w7 = Sort.putRow enc8 (Sort.ahead w _) g 0 d7) := hw7.symm
                            clear hw7
                            go_wp2
                            go_roundg (nj7 + 1 - ni7)
                            case measure => have := hg3.out; have := hgC.out; have := hgF.out; have := HNI7.out; have := HNJ7.out; have := HLT7.out; have := hleF.out; have := hgeC.out; omega
                            case rel => exact ⟨ni7, nj7, _, _, _, d7, rfl, rfl, ⟨by first | exact HNWI7.out | rfl⟩, ⟨by first | exact HNWJ7.out | rfl⟩, ⟨by have := hgeC.out; have := hge3.out; have := HNI7.out; omega⟩, ⟨by have := HNI7.out; have := HNJ7.out; have := HLT7.out; omega⟩, ⟨by have := hleF.out; have := hjb3.out; have := HNJ7.out; omega⟩, ⟨by have := HNI7.out; have := HNJ7.out; have := HLT7.out; omega⟩, hk7, hwr7⟩
                          · have hbF : decide (xjF < xawr) = false := decide_eq_false hcF
                            obtain ⟨nF, hnF⟩ : ∃ n, n + 1 = jF := ⟨jF - 1, by have := HIwr.out; omega⟩
                            have hnwF : wrap64 ((jF : Int) - 1) = (nF : Int) := by have := hleF.out; have := HJBwr.out; have := HN.out; have := HB.out; rw [wrap_id (by omega) (by omega)]; omega
                            have HNXF := Aside0.mk hnF
                            clear hnF
                            go_wp2
                            go_quiet ((go_at_call 86; refine (less_any xjF xawr _).mono ?_; rw [hbF]; rintro e w' ⟨rfl, ⟨nd, rfl⟩⟩; with_reducible first | exact ⟨rfl, _, (World.drewN_drewN _ _ _).trans (congrArg wr.drewN (Nat.add_assoc _ _ _))⟩ | exact ⟨rfl, _, World.drewN_drewN _ _ _⟩ | exact ⟨rfl, _, rfl⟩))
                            go_wp2
                            go_roundg (nF + 1 - iC)
                            case measure => have := hgF.out; have := HNXF.out; omega
                            case rel => exact ⟨nF, _, rfl, ⟨by first | exact hnwF | rfl⟩, ⟨by have := hleF.out; have := HNXF.out; omega⟩, ⟨by have := HNXF.out; omega⟩, ⟨by with_reducible first | exact ⟨_, rfl⟩ | exact ⟨_, World.drewN_drewN _ _ _⟩⟩⟩
                        · have hijzF : ¬ (iC : Int) ≤ (jF : Int) := by omega
                          go_wp2
                          go_quiet (fail)
                          go_wp2
                          obtain ⟨xf6, hxf6⟩ : ∃ x, dk[jF]! = x := ⟨_, rfl⟩
                          obtain ⟨xg6, hxg6⟩ : ∃ x, dk[a]! = x := ⟨_, rfl⟩
                          have jl6 : jF < b := by have := hleF.out; have := HJBwr.out; omega
                          have jg6 : a ≤ jF := by have := hgeC.out; have := hge3.out; have := HA1.out; have := hgF.out; omega
                          have jn6 : (jF : Int) < (N : Int) := by have := HB.out; omega
                          by_cases hja6 : jF = a
                          · subst hja6
                            try rw [World.drewN_drewN]
                            generalize hv6 : wr.drewN _ = v6
                            have hvr6 : Aside (v6 = Sort.putRow enc8 (Sort.ahead w _) g 0 dk) := hv6.symm.trans (put_drewN hwr3.out _)
                            have si6 : v6.cell? ⟨g, jF, none⟩ = some (.int .u8 xf6) := by have h := (put_cell HH.out HD.out hk3.out hvr6.out jF (by have := HB.out; omega)).1; rw [hxf6] at h; exact h
                            have ti6 : v6.frozen? ⟨g, jF, none⟩ = false := (put_cell HH.out HD.out hk3.out hvr6.out jF (by have := HB.out; omega)).2
                            try clear hv6
                            go_region
                            have hz6 := put_swap hvr6.out jF jF (by rw [hk3.out]; exact (by have := HB.out; omega)) (by rw [hk3.out]; exact (by have := HB.out; omega)) xf6 xf6 hxf6 hxf6
                            rw [hz6]
                            clear hz6
                            have hk6 : Aside0 ((Sort.swp dk jF jF).size = N) := Aside0.mk (by rw [Sort.size_swp]; exact hk3.out)
                            generalize Sort.swp dk jF jF = d6 at hk6 ⊢
                            generalize hw6 : Sort.putRow enc8 (Sort.ahead w _) g 0 d6 = w6
                            have hwr6 : Aside (w6 = Sort.putRow enc8 (Sort.ahead w _) g 0 d6) := hw6.symm
                            clear hw6
                            go_wp2
                            go_ret2
                            exact ⟨jF, false, _, d6, rfl, jg6, jl6, hk6.out, hwr6.out⟩
                          · try rw [World.drewN_drewN]
                            generalize hv6 : wr.drewN _ = v6
                            have hvr6 : Aside (v6 = Sort.putRow enc8 (Sort.ahead w _) g 0 dk) := hv6.symm.trans (put_drewN hwr3.out _)
                            have si6 : v6.cell? ⟨g, jF, none⟩ = some (.int .u8 xf6) := by have h := (put_cell HH.out HD.out hk3.out hvr6.out jF (by have := HB.out; omega)).1; rw [hxf6] at h; exact h
                            have ti6 : v6.frozen? ⟨g, jF, none⟩ = false := (put_cell HH.out HD.out hk3.out hvr6.out jF (by have := HB.out; omega)).2
                            have sj6 : v6.cell? ⟨g, a, none⟩ = some (.int .u8 xg6) := by have h := (put_cell HH.out HD.out hk3.out hvr6.out a (by have := HAP.out; have := HPB.out; have := HB.out; omega)).1; rw [hxg6] at h; exact h
                            have tj6 : v6.frozen? ⟨g, a, none⟩ = false := (put_cell HH.out HD.out hk3.out hvr6.out a (by have := HAP.out; have := HPB.out; have := HB.out; omega)).2
                            have hne6 : ¬ jF = a := hja6
                            have hnf6 : ¬ a = jF := fun h => hne6 h.symm
                            try clear hv6
                            go_region
                            have hz6 := put_swap hvr6.out jF a (by rw [hk3.out]; exact (by have := HB.out; omega)) (by rw [hk3.out]; exact (by have := HAP.out; have := HPB.out; have := HB.out; omega)) xf6 xg6 hxf6 hxg6
                            rw [hz6]
                            clear hz6
                            have hk6 : Aside0 ((Sort.swp dk jF a).size = N) := Aside0.mk (by rw [Sort.size_swp]; exact hk3.out)
                            generalize Sort.swp dk jF a = d6 at hk6 ⊢
                            generalize hw6 : Sort.putRow enc8 (Sort.ahead w _) g 0 d6 = w6
                            have hwr6 : Aside (w6 = Sort.putRow enc8 (Sort.ahead w _) g 0 d6) := hw6.symm
                            clear hw6
                            go_wp2
                            go_ret2
                            exact ⟨jF, false, _, d6, rfl, jg6, jl6, hk6.out, hwr6.out⟩
                  · have hijzC : ¬ (iC : Int) ≤ (j3 : Int) := by omega
                    go_wp2
                    go_quiet (fail)
                    go_wp2
                    go_loopg [11] 0 (fun gk v wv => ∃ z : Int, v = .int .i64 z ∧ Aside0 (z = (j3 : Int)) ∧ Aside0 (∃ q, wv = wr.drewN q))
                    case atStart => exact ⟨_, rfl, ⟨by first | rfl | assumption⟩, ⟨by with_reducible first | exact ⟨_, rfl⟩ | exact ⟨_, World.drewN_drewN _ _ _⟩⟩⟩
                    case round =>
                      obtain ⟨zE, rfl, hzE, hwE⟩ := hrel
                      obtain rfl : zE = (j3 : Int) := hzE.out
                      clear hzE
                      obtain ⟨qE, rfl⟩ := hwE.out
                      clear hwE
                      go_wp2
                      go_quiet (fail)
                      go_wp2
                      obtain ⟨xf5, hxf5⟩ : ∃ x, dk[j3]! = x := ⟨_, rfl⟩
                      obtain ⟨xg5, hxg5⟩ : ∃ x, dk[a]! = x := ⟨_, rfl⟩
                      have jl5 : j3 < b := HJBwr.out
                      have jg5 : a ≤ j3 := by have := hgeC.out; have := hge3.out; have := HA1.out; have := hgC.out; omega
                      have jn5 : (j3 : Int) < (N : Int) := by have := HB.out; omega
                      by_cases hja5 : j3 = a
                      · subst hja5
                        try rw [World.drewN_drewN]
                        generalize hv5 : wr.drewN _ = v5
                        have hvr5 : Aside (v5 = Sort.putRow enc8 (Sort.ahead w _) g 0 dk) := hv5.symm.trans (put_drewN hwr3.out _)
                        have si5 : v5.cell? ⟨g, j3, none⟩ = some (.int .u8 xf5) := by have h := (put_cell HH.out HD.out hk3.out hvr5.out j3 (by have := HB.out; omega)).1; rw [hxf5] at h; exact h
                        have ti5 : v5.frozen? ⟨g, j3, none⟩ = false := (put_cell HH.out HD.out hk3.out hvr5.out j3 (by have := HB.out; omega)).2
                        try clear hv5
                        go_region
                        have hz5 := put_swap hvr5.out j3 j3 (by rw [hk3.out]; exact (by have := HB.out; omega)) (by rw [hk3.out]; exact (by have := HB.out; omega)) xf5 xf5 hxf5 hxf5
                        rw [hz5]
                        clear hz5
                        have hk5 : Aside0 ((Sort.swp dk j3 j3).size = N) := Aside0.mk (by rw [Sort.size_swp]; exact hk3.out)
                        generalize Sort.swp dk j3 j3 = d5 at hk5 ⊢
                        generalize hw5 : Sort.putRow enc8 (Sort.ahead w _) g 0 d5 = w5
                        have hwr5 : Aside (w5 = Sort.putRow enc8 (Sort.ahead w _) g 0 d5) := hw5.symm
                        clear hw5
                        go_wp2
                        go_ret2
                        exact ⟨j3, false, _, d5, rfl, jg5, jl5, hk5.out, hwr5.out⟩
                      · try rw [World.drewN_drewN]
                        generalize hv5 : wr.drewN _ = v5
                        have hvr5 : Aside (v5 = Sort.putRow enc8 (Sort.ahead w _) g 0 dk) := hv5.symm.trans (put_drewN hwr3.out _)
                        have si5 : v5.cell? ⟨g, j3, none⟩ = some (.int .u8 xf5) := by have h := (put_cell HH.out HD.out hk3.out hvr5.out j3 (by have := HB.out; omega)).1; rw [hxf5] at h; exact h
                        have ti5 : v5.frozen? ⟨g, j3, none⟩ = false := (put_cell HH.out HD.out hk3.out hvr5.out j3 (by have := HB.out; omega)).2
                        have sj5 : v5.cell? ⟨g, a, none⟩ = some (.int .u8 xg5) := by have h := (put_cell HH.out HD.out hk3.out hvr5.out a (by have := HAP.out; have := HPB.out; have := HB.out; omega)).1; rw [hxg5] at h; exact h
                        have tj5 : v5.frozen? ⟨g, a, none⟩ = false := (put_cell HH.out HD.out hk3.out hvr5.out a (by have := HAP.out; have := HPB.out; have := HB.out; omega)).2
                        have hne5 : ¬ j3 = a := hja5
                        have hnf5 : ¬ a = j3 := fun h => hne5 h.symm
                        try clear hv5
                        go_region
                        have hz5 := put_swap hvr5.out j3 a (by rw [hk3.out]; exact (by have := HB.out; omega)) (by rw [hk3.out]; exact (by have := HAP.out; have := HPB.out; have := HB.out; omega)) xf5 xg5 hxf5 hxg5
                        rw [hz5]
                        clear hz5
                        have hk5 : Aside0 ((Sort.swp dk j3 a).size = N) := Aside0.mk (by rw [Sort.size_swp]; exact hk3.out)
                        generalize Sort.swp dk j3 a = d5 at hk5 ⊢
                        generalize hw5 : Sort.putRow enc8 (Sort.ahead w _) g 0 d5 = w5
                        have hwr5 : Aside (w5 = Sort.putRow enc8 (Sort.ahead w _) g 0 d5) := hw5.symm
                        clear hw5
                        go_wp2
                        go_ret2
                        exact ⟨j3, false, _, d5, rfl, jg5, jl5, hk5.out, hwr5.out⟩
            · have hbB : decide (xjB < xaw1) = false := decide_eq_false hcB
              obtain ⟨nB, hnB⟩ : ∃ n, n + 1 = jB := ⟨jB - 1, by have := HIw1.out; omega⟩
              have hnwB : wrap64 ((jB : Int) - 1) = (nB : Int) := by have := hleB.out; have := HJBw1.out; have := HN.out; have := HB.out; rw [wrap_id (by omega) (by omega)]; omega
              have HNXB := Aside0.mk hnB
              clear hnB
              go_wp2
              go_quiet ((go_at_call 86; refine (less_any xjB xaw1 _).mono ?_; rw [hbB]; rintro e w' ⟨rfl, ⟨nd, rfl⟩⟩; with_reducible first | exact ⟨rfl, _, (World.drewN_drewN _ _ _).trans (congrArg w1.drewN (Nat.add_assoc _ _ _))⟩ | exact ⟨rfl, _, World.drewN_drewN _ _ _⟩ | exact ⟨rfl, _, rfl⟩))
              go_wp2
              go_roundg (nB + 1 - iA)
              case measure => have := hgB.out; have := HNXB.out; omega
              case rel => exact ⟨nB, _, rfl, ⟨by first | exact hnwB | rfl⟩, ⟨by have := hleB.out; have := HNXB.out; omega⟩, ⟨by have := HNXB.out; omega⟩, ⟨by with_reducible first | exact ⟨_, rfl⟩ | exact ⟨_, World.drewN_drewN _ _ _⟩⟩⟩
          · have hijzB : ¬ (iA : Int) ≤ (jB : Int) := by omega
            go_wp2
            go_quiet (fail)
            go_wp2
            obtain ⟨xf3, hxf3⟩ : ∃ x, d1[jB]! = x := ⟨_, rfl⟩
            obtain ⟨xg3, hxg3⟩ : ∃ x, d1[a]! = x := ⟨_, rfl⟩
            have jl3 : jB < b := by have := hleB.out; have := HJBw1.out; omega
            have jg3 : a ≤ jB := by have := hgeA.out; have := HA1.out; have := hgB.out; omega
            have jn3 : (jB : Int) < (N : Int) := by have := HB.out; omega
            by_cases hja3 : jB = a
            · subst hja3
              try rw [World.drewN_drewN]
              generalize hv3 : w1.drewN _ = v3
              have hvr3 : Aside (v3 = Sort.putRow enc8 (Sort.ahead w _) g 0 d1) := hv3.symm.trans (put_drewN hwr1.out _)
              have si3 : v3.cell? ⟨g, jB, none⟩ = some (.int .u8 xf3) := by have h := (put_cell HH.out HD.out hk1.out hvr3.out jB (by have := HB.out; omega)).1; rw [hxf3] at h; exact h
              have ti3 : v3.frozen? ⟨g, jB, none⟩ = false := (put_cell HH.out HD.out hk1.out hvr3.out jB (by have := HB.out; omega)).2
              try clear hv3
              go_region
              have hz3 := put_swap hvr3.out jB jB (by rw [hk1.out]; exact (by have := HB.out; omega)) (by rw [hk1.out]; exact (by have := HB.out; omega)) xf3 xf3 hxf3 hxf3
              rw [hz3]
              clear hz3
              have hk3 : Aside0 ((Sort.swp d1 jB jB).size = N) := Aside0.mk (by rw [Sort.size_swp]; exact hk1.out)
              generalize Sort.swp d1 jB jB = d3 at hk3 ⊢
              generalize hw3 : Sort.putRow enc8 (Sort.ahead w _) g 0 d3 = w3
              have hwr3 : Aside (w3 = Sort.putRow enc8 (Sort.ahead w _) g 0 d3) := hw3.symm
              clear hw3
              go_wp2
              go_ret2
              exact ⟨jB, true, _, d3, rfl, jg3, jl3, hk3.out, hwr3.out⟩
            · try rw [World.drewN_drewN]
              generalize hv3 : w1.drewN _ = v3
              have hvr3 : Aside (v3 = Sort.putRow enc8 (Sort.ahead w _) g 0 d1) := hv3.symm.trans (put_drewN hwr1.out _)
              have si3 : v3.cell? ⟨g, jB, none⟩ = some (.int .u8 xf3) := by have h := (put_cell HH.out HD.out hk1.out hvr3.out jB (by have := HB.out; omega)).1; rw [hxf3] at h; exact h
              have ti3 : v3.frozen? ⟨g, jB, none⟩ = false := (put_cell HH.out HD.out hk1.out hvr3.out jB (by have := HB.out; omega)).2
              have sj3 : v3.cell? ⟨g, a, none⟩ = some (.int .u8 xg3) := by have h := (put_cell HH.out HD.out hk1.out hvr3.out a (by have := HAP.out; have := HPB.out; have := HB.out; omega)).1; rw [hxg3] at h; exact h
              have tj3 : v3.frozen? ⟨g, a, none⟩ = false := (put_cell HH.out HD.out hk1.out hvr3.out a (by have := HAP.out; have := HPB.out; have := HB.out; omega)).2
              have hne3 : ¬ jB = a := hja3
              have hnf3 : ¬ a = jB := fun h => hne3 h.symm
              try clear hv3
              go_region
              have hz3 := put_swap hvr3.out jB a (by rw [hk1.out]; exact (by have := HB.out; omega)) (by rw [hk1.out]; exact (by have := HAP.out; have := HPB.out; have := HB.out; omega)) xf3 xg3 hxf3 hxg3
              rw [hz3]
              clear hz3
              have hk3 : Aside0 ((Sort.swp d1 jB a).size = N) := Aside0.mk (by rw [Sort.size_swp]; exact hk1.out)
              generalize Sort.swp d1 jB a = d3 at hk3 ⊢
              generalize hw3 : Sort.putRow enc8 (Sort.ahead w _) g 0 d3 = w3
              have hwr3 : Aside (w3 = Sort.putRow enc8 (Sort.ahead w _) g 0 d3) := hw3.symm
              clear hw3
              go_wp2
              go_ret2
              exact ⟨jB, true, _, d3, rfl, jg3, jl3, hk3.out, hwr3.out⟩
    · have hijzA : ¬ (iA : Int) ≤ (b1 : Int) := by omega
      have hijyA : ((iA : Int) ≤ wrap64 ((b : Int) - 1)) = False := eq_false (by rw [HB1w.out]; omega)
      go_wp2
      go_quiet (fail)
      go_wp2
      go_loopg [11] 0 (fun gk v wv => ∃ z : Int, v = .int .i64 z ∧ Aside0 (z = (b1 : Int)) ∧ Aside0 (∃ q, wv = w1.drewN q))
      case atStart => exact ⟨_, rfl, ⟨by first | exact HB1w.out | rfl⟩, ⟨by with_reducible first | exact ⟨_, rfl⟩ | exact ⟨_, World.drewN_drewN _ _ _⟩⟩⟩
      case round =>
        obtain ⟨zD, rfl, hzD, hwD⟩ := hrel
        obtain rfl : zD = (b1 : Int) := hzD.out
        clear hzD
        obtain ⟨qD, rfl⟩ := hwD.out
        clear hwD
        go_wp2
        go_quiet (fail)
        go_wp2
        obtain ⟨xf2, hxf2⟩ : ∃ x, d1[b1]! = x := ⟨_, rfl⟩
        obtain ⟨xg2, hxg2⟩ : ∃ x, d1[a]! = x := ⟨_, rfl⟩
        have jl2 : b1 < b := HJBw1.out
        have jg2 : a ≤ b1 := by have := HAP.out; have := HPB.out; have := HB1.out; omega
        have jn2 : (b1 : Int) < (N : Int) := by have := HB.out; omega
        have hja2 : ¬ b1 = a := by have := HAP.out; have := HPB.out; have := HB1.out; omega
        try rw [World.drewN_drewN]
        generalize hv2 : w1.drewN _ = v2
        have hvr2 : Aside (v2 = Sort.putRow enc8 (Sort.ahead w _) g 0 d1) := hv2.symm.trans (put_drewN hwr1.out _)
        have si2 : v2.cell? ⟨g, b1, none⟩ = some (.int .u8 xf2) := by have h := (put_cell HH.out HD.out hk1.out hvr2.out b1 (by have := HB.out; omega)).1; rw [hxf2] at h; exact h
        have ti2 : v2.frozen? ⟨g, b1, none⟩ = false := (put_cell HH.out HD.out hk1.out hvr2.out b1 (by have := HB.out; omega)).2
        have sj2 : v2.cell? ⟨g, a, none⟩ = some (.int .u8 xg2) := by have h := (put_cell HH.out HD.out hk1.out hvr2.out a (by have := HAP.out; have := HPB.out; have := HB.out; omega)).1; rw [hxg2] at h; exact h
        have tj2 : v2.frozen? ⟨g, a, none⟩ = false := (put_cell HH.out HD.out hk1.out hvr2.out a (by have := HAP.out; have := HPB.out; have := HB.out; omega)).2
        have hne2 : ¬ b1 = a := hja2
        have hnf2 : ¬ a = b1 := fun h => hne2 h.symm
        try clear hv2
        go_region
        have hz2 := put_swap hvr2.out b1 a (by rw [hk1.out]; exact (by have := HB.out; omega)) (by rw [hk1.out]; exact (by have := HAP.out; have := HPB.out; have := HB.out; omega)) xf2 xg2 hxf2 hxg2
        rw [hz2]
        clear hz2
        have hk2 : Aside0 ((Sort.swp d1 b1 a).size = N) := Aside0.mk (by rw [Sort.size_swp]; exact hk1.out)
        generalize Sort.swp d1 b1 a = d2 at hk2 ⊢
        generalize hw2 : Sort.putRow enc8 (Sort.ahead w _) g 0 d2 = w2
        have hwr2 : Aside (w2 = Sort.putRow enc8 (Sort.ahead w _) g 0 d2) := hw2.symm
        clear hw2
        go_wp2
        go_ret2
        exact ⟨b1, true, _, d2, rfl, jg2, jl2, hk2.out, hwr2.out⟩

end Go.Proofs.Ytpdcjkiejglaiaa.Q

/-
  partitionEqualOrdered on bytes: it returns a place between its ends, and the row stays one of the same length.
-/
namespace Go.Proofs.Ytpdcjkiejglaiaa.Q
open Go.RowKit Go.Proofs.YtpdcjkiejglaiaaW.PrintWords Go.Proofs.YtpdcjkiejglaiaaW.PrintLast Go.Proofs.YtpdcjkiejglaiaaW.PrintMore
set_option linter.unusedVariables false
set_option linter.unusedSimpArgs false

set_option maxHeartbeats 16000000 in
set_option maxRecDepth 100000 in
theorem partEq_any (g cap N a b p : Nat) (d : Array Int) (w : World) (hH : Sort.Holds enc8 w g 0 d) (hd : d.size = N) (hN : N ≤ 1000) (hap : a < p) (hpb : p < b) (hb : b ≤ N) :
    Calls Try.prog 87 #[.slice (some ⟨g, 0, none⟩) N cap, .int .i64 a, .int .i64 b, .int .i64 p] w fun e w' => ∃ (j : Nat) (n : Nat) (dk : Array Int), e = .returned (.int .i64 j) ∧ a < j ∧ j ≤ b ∧ dk.size = N ∧ w' = Sort.putRow enc8 (Sort.ahead w n) g 0 dk := by
  have HH := Aside0.mk hH
  have HD := Aside0.mk hd
  have HN := Aside0.mk hN
  have HB := Aside0.mk hb
  have HAP := Aside0.mk hap
  have HPB := Aside0.mk hpb
  clear hH hd hN hb hap hpb
  obtain ⟨d0, n0, hk0, hwr0⟩ : ∃ d0 n0, Aside0 (d0.size = N) ∧ Aside (w = Sort.putRow enc8 (Sort.ahead w n0) g 0 d0) := ⟨d, 0, HD, put_self HH.out⟩
  obtain ⟨xa, hxa⟩ : ∃ xa, d0[a]! = xa := ⟨_, rfl⟩
  obtain ⟨xp, hxp⟩ : ∃ xp, d0[p]! = xp := ⟨_, rfl⟩
  have la : (a : Int) < (N : Int) := by have := HAP.out; have := HPB.out; have := HB.out; omega
  have lp : (p : Int) < (N : Int) := by have := HPB.out; have := HB.out; omega
  obtain ⟨a1, ha1⟩ : ∃ a1, a1 = a + 1 := ⟨_, rfl⟩
  obtain ⟨b1, hb1⟩ : ∃ b1, b1 + 1 = b := ⟨b - 1, by have := HPB.out; omega⟩
  have hA1 : wrap64 ((a : Int) + 1) = (a1 : Int) := by have := HAP.out; have := HPB.out; have := HB.out; have := HN.out; rw [wrap_id (by omega) (by omega)]; omega
  have hB1 : wrap64 ((b : Int) - 1) = (b1 : Int) := by have := HPB.out; have := HB.out; have := HN.out; rw [wrap_id (by omega) (by omega)]; omega
  have HA1w := Aside0.mk hA1
  have HB1w := Aside0.mk hB1
  clear hA1 hB1
  have HA1 := Aside0.mk ha1
  have HB1 := Aside0.mk hb1
  clear ha1 hb1
  go_enter Try.func87, Try.ntmps87
  go_wp2
  have hvr1 : Aside (w = Sort.putRow enc8 (Sort.ahead w _) g 0 d0) := hwr0.out
  have hv1 : w = w := rfl
  have si1 : w.cell? ⟨g, a, none⟩ = some (.int .u8 xa) := by have h := (put_cell HH.out HD.out hk0.out hvr1.out a (by have := HAP.out; have := HPB.out; have := HB.out; omega)).1; rw [hxa] at h; exact h
  have ti1 : w.frozen? ⟨g, a, none⟩ = false := (put_cell HH.out HD.out hk0.out hvr1.out a (by have := HAP.out; have := HPB.out; have := HB.out; omega)).2
  have sj1 : w.cell? ⟨g, p, none⟩ = some (.int .u8 xp) := by have h := (put_cell HH.out HD.out hk0.out hvr1.out p (by have := HPB.out; have := HB.out; omega)).1; rw [hxp] at h; exact h
  have tj1 : w.frozen? ⟨g, p, none⟩ = false := (put_cell HH.out HD.out hk0.out hvr1.out p (by have := HPB.out; have := HB.out; omega)).2
  have hne1 : ¬ a = p := by have := HAP.out; omega
  have hnf1 : ¬ p = a := fun h => hne1 h.symm
  try clear hv1
  go_region
  have hz1 := put_swap hvr1.out a p (by rw [hk0.out]; exact (by have := HAP.out; have := HPB.out; have := HB.out; omega)) (by rw [hk0.out]; exact (by have := HPB.out; have := HB.out; omega)) xa xp hxa hxp
  rw [hz1]
  clear hz1
  have hk1 : Aside0 ((Sort.swp d0 a p).size = N) := Aside0.mk (by rw [Sort.size_swp]; exact hk0.out)
  generalize Sort.swp d0 a p = d1 at hk1 ⊢
  generalize hw1 : Sort.putRow enc8 (Sort.ahead w _) g 0 d1 = w1
  have hwr1 : Aside (w1 = Sort.putRow enc8 (Sort.ahead w _) g 0 d1) := hw1.symm
  clear hw1
  clear hxa hxp hvr1 si1 ti1 sj1 tj1 hne1 hnf1
  go_wp2
  go_loopg [9, 10] (b1 + 1 - a1) (fun gk v10 v11 wr => ∃ (i j : Nat) (z y : Int) (n : Nat) (dk : Array Int), v10 = .int .i64 z ∧ v11 = .int .i64 y ∧ Aside0 (z = (i : Int)) ∧ Aside0 (y = (j : Int)) ∧ Aside0 (a1 ≤ i) ∧ Aside0 (i ≤ j + 1) ∧ Aside0 (j ≤ b1) ∧ Aside0 (gk + i = j + 1) ∧ Aside0 (dk.size = N) ∧ Aside (wr = Sort.putRow enc8 (Sort.ahead w n) g 0 dk))
  case atStart => exact ⟨a1, b1, _, _, _, _, rfl, rfl, ⟨by first | exact HA1w.out | rfl⟩, ⟨by first | exact HB1w.out | rfl⟩, ⟨Nat.le_refl _⟩, ⟨by have := HA1.out; have := HB1.out; have := HAP.out; have := HPB.out; omega⟩, ⟨Nat.le_refl _⟩, ⟨by have h : a1 ≤ b1 + 1 := (by have := HA1.out; have := HB1.out; have := HAP.out; have := HPB.out; omega); omega⟩, hk1, hwr1⟩
  case round =>
    obtain ⟨i3, j3, z3, y3, n3, dk, rfl, rfl, hz3, hy3, hge3, hle3, hjb3, hg3, hk3, hwr3⟩ := hrel
    obtain rfl : z3 = (i3 : Int) := hz3.out
    obtain rfl : y3 = (j3 : Int) := hy3.out
    clear hz3 hy3
    obtain ⟨xawr, hxawr⟩ : ∃ x, dk[a]! = x := ⟨_, rfl⟩
    have cawr := (put_cell HH.out HD.out hk3.out hwr3.out a (by have := HAP.out; have := HPB.out; have := HB.out; omega)).1
    rw [hxawr] at cawr
    have HIJwr : Aside0 (i3 ≤ j3 + 1) := hle3
    have HJBwr : Aside0 (j3 < b) := Aside0.mk (by have := HB1.out; have := hjb3.out; omega)
    go_wp2
    go_loopg [9] (j3 + 1 - i3) (fun gk v wv => ∃ (i : Nat) (z : Int), v = .int .i64 z ∧ Aside0 (z = (i : Int)) ∧ Aside0 (i3 ≤ i) ∧ Aside0 (gk + i = j3 + 1) ∧ Aside0 (∃ q, wv = wr.drewN q))
    case atStart => exact ⟨i3, _, rfl, ⟨rfl⟩, ⟨Nat.le_refl _⟩, ⟨by have := HIJwr.out; omega⟩, ⟨⟨0, rfl⟩⟩⟩
    case round =>
      obtain ⟨iC, zC, rfl, hzC, hgeC, hgC, hwC⟩ := hrel
      obtain rfl : zC = (iC : Int) := hzC.out
      clear hzC
      obtain ⟨qC, rfl⟩ := hwC.out
      clear hwC
      by_cases hijC : iC ≤ j3
      · have hijzC : (iC : Int) ≤ (j3 : Int) := by omega
        have ciC := (put_cell HH.out HD.out hk3.out hwr3.out iC (by have := HJBwr.out; have := HB.out; have := HPB.out; omega)).1
        have fiC := (put_cell HH.out HD.out hk3.out hwr3.out iC (by have := HJBwr.out; have := HB.out; have := HPB.out; omega)).2
        obtain ⟨xiC, hxiC⟩ : ∃ xiC, dk[iC]! = xiC := ⟨_, rfl⟩
        rw [hxiC] at ciC
        have liC : ((iC : Nat) : Int) < (N : Int) := by have h : iC < N := (by have := HJBwr.out; have := HB.out; have := HPB.out; omega); omega
        by_cases hcC : xawr < xiC
        · have hbC : decide (xawr < xiC) = true := decide_eq_true hcC
          go_wp2
          go_quiet ((go_at_call 86; refine (less_any xawr xiC _).mono ?_; rw [hbC]; rintro e w' ⟨rfl, ⟨nd, rfl⟩⟩; with_reducible first | exact ⟨rfl, _, (World.drewN_drewN _ _ _).trans (congrArg wr.drewN (Nat.add_assoc _ _ _))⟩ | exact ⟨rfl, _, World.drewN_drewN _ _ _⟩ | exact ⟨rfl, _, rfl⟩))
          go_wp2
          have HIwr := Aside0.mk (show 1 ≤ iC by have := hgeC.out; have := hge3.out; have := HA1.out; omega)
          go_loopg [10] (j3 + 1 - iC) (fun gk v wv => ∃ (j : Nat) (z : Int), v = .int .i64 z ∧ Aside0 (z = (j : Int)) ∧ Aside0 (j ≤ j3) ∧ Aside0 (gk + iC = j + 1) ∧ Aside0 (∃ q, wv = wr.drewN q))
          case atStart => exact ⟨j3, _, rfl, ⟨by first | rfl | assumption⟩, ⟨Nat.le_refl _⟩, ⟨by omega⟩, ⟨by with_reducible first | exact ⟨_, rfl⟩ | exact ⟨_, World.drewN_drewN _ _ _⟩⟩⟩
          case round =>
            obtain ⟨jF, zF, rfl, hzF, hleF, hgF, hwF⟩ := hrel
            obtain rfl : zF = (jF : Int) := hzF.out
            clear hzF
            obtain ⟨qF, rfl⟩ := hwF.out
            clear hwF
            by_cases hijF : iC ≤ jF
            · have hijzF : (iC : Int) ≤ (jF : Int) := by omega
              have hijxF : ((jF : Int) < (iC : Int)) = False := eq_false (by omega)
              have cjF := (put_cell HH.out HD.out hk3.out hwr3.out jF (by have := hleF.out; have := HJBwr.out; have := HB.out; have := HPB.out; omega)).1
              have fjF := (put_cell HH.out HD.out hk3.out hwr3.out jF (by have := hleF.out; have := HJBwr.out; have := HB.out; have := HPB.out; omega)).2
              obtain ⟨xjF, hxjF⟩ : ∃ xjF, dk[jF]! = xjF := ⟨_, rfl⟩
              rw [hxjF] at cjF
              have ljF : ((jF : Nat) : Int) < (N : Int) := by have h : jF < N := (by have := hleF.out; have := HJBwr.out; have := HB.out; have := HPB.out; omega); omega
              by_cases hcF : xawr < xjF
              · have hbF : decide (xawr < xjF) = true := decide_eq_true hcF
                obtain ⟨nF, hnF⟩ : ∃ n, n + 1 = jF := ⟨jF - 1, by have := HIwr.out; omega⟩
                have hnwF : wrap64 ((jF : Int) - 1) = (nF : Int) := by have := hleF.out; have := HJBwr.out; have := HN.out; have := HB.out; rw [wrap_id (by omega) (by omega)]; omega
                have HNXF := Aside0.mk hnF
                clear hnF
                go_wp2
                go_quiet ((go_at_call 86; refine (less_any xawr xjF _).mono ?_; rw [hbF]; rintro e w' ⟨rfl, ⟨nd, rfl⟩⟩; with_reducible first | exact ⟨rfl, _, (World.drewN_drewN _ _ _).trans (congrArg wr.drewN (Nat.add_assoc _ _ _))⟩ | exact ⟨rfl, _, World.drewN_drewN _ _ _⟩ | exact ⟨rfl, _, rfl⟩))
                go_wp2
                go_roundg (nF + 1 - iC)
                case measure => have := hgF.out; have := HNXF.out; omega
                case rel => exact ⟨nF, _, rfl, ⟨by first | exact hnwF | rfl⟩, ⟨by have := hleF.out; have := HNXF.out; omega⟩, ⟨by have := HNXF.out; omega⟩, ⟨by with_reducible first | exact ⟨_, rfl⟩ | exact ⟨_, World.drewN_drewN _ _ _⟩⟩⟩
              · have hbF : decide (xawr < xjF) = false := decide_eq_false hcF
                go_wp2
                go_quiet ((go_at_call 86; refine (less_any xawr xjF _).mono ?_; rw [hbF]; rintro e w' ⟨rfl, ⟨nd, rfl⟩⟩; with_reducible first | exact ⟨rfl, _, (World.drewN_drewN _ _ _).trans (congrArg wr.drewN (Nat.add_assoc _ _ _))⟩ | exact ⟨rfl, _, World.drewN_drewN _ _ _⟩ | exact ⟨rfl, _, rfl⟩))
                go_wp2
                have HI7 := Aside0.mk (show 1 ≤ jF by have := hgeC.out; have := hge3.out; have := HA1.out; omega)
                have hlj7 := hleF.out
                have HLT7 : Aside0 (iC < jF) := Aside0.mk (Nat.lt_of_le_of_ne hijF (by intro e; have e2 : xiC = xjF := (by rw [← hxiC, e, hxjF]); omega))
                obtain ⟨ni7, hni7⟩ : ∃ n, n = iC + 1 := ⟨_, rfl⟩
                obtain ⟨nj7, hnj7⟩ : ∃ n, n + 1 = jF := ⟨jF - 1, by have := HI7.out; omega⟩
                have hnwi7 : wrap64 ((iC : Int) + 1) = (ni7 : Int) := by have := HN.out; have := HB.out; have := HJBwr.out; have := HLT7.out; rw [wrap_id (by omega) (by omega)]; omega
                have hnwj7 : wrap64 ((jF : Int) - 1) = (nj7 : Int) := by have := HN.out; have := HB.out; have := HJBwr.out; have := HLT7.out; rw [wrap_id (by omega) (by omega)]; omega
                have HNI7 := Aside0.mk hni7
                have HNJ7 := Aside0.mk hnj7
                have HNWI7 := Aside0.mk hnwi7
                have HNWJ7 := Aside0.mk hnwj7
                clear hni7 hnj7 hnwi7 hnwj7
                try rw [World.drewN_drewN]
                generalize hv7 : wr.drewN _ = v7
                have hvr7 : Aside (v7 = Sort.putRow enc8 (Sort.ahead w _) g 0 dk) := hv7.symm.trans (put_drewN hwr3.out _)
                have si7 : v7.cell? ⟨g, iC, none⟩ = some (.int .u8 xiC) := by have h := (put_cell HH.out HD.out hk3.out hvr7.out iC (by have := HLT7.out; have := hleF.out; have := HJBwr.out; have := HB.out; omega)).1; rw [hxiC] at h; exact h
                have ti7 : v7.frozen? ⟨g, iC, none⟩ = false := (put_cell HH.out HD.out hk3.out hvr7.out iC (by have := HLT7.out; have := hleF.out; have := HJBwr.out; have := HB.out; omega)).2
                have sj7 : v7.cell? ⟨g, jF, none⟩ = some (.int .u8 xjF) := by have h := (put_cell HH.out HD.out hk3.out hvr7.out jF (by have := hleF.out; have := HJBwr.out; have := HB.out; omega)).1; rw [hxjF] at h; exact h
                have tj7 : v7.frozen? ⟨g, jF, none⟩ = false := (put_cell HH.out HD.out hk3.out hvr7.out jF (by have := hleF.out; have := HJBwr.out; have := HB.out; omega)).2
                have hne7 : ¬ iC = jF := by have := HLT7.out; omega
                have hnf7 : ¬ jF = iC := fun h => hne7 h.symm
                try clear hv7
                go_region
                have hz7 := put_swap hvr7.out iC jF (by rw [hk3.out]; exact (by have := HLT7.out; have := hleF.out; have := HJBwr.out; have := HB.out; omega)) (by rw [hk3.out]; exact (by have := hleF.out; have := HJBwr.out; have := HB.out; omega)) xiC xjF hxiC hxjF
                rw [hz7]
                clear hz7
                have hk7 : Aside0 ((Sort.swp dk iC jF).size = N) := Aside0.mk (by rw [Sort.size_swp]; exact hk3.out)
                generalize Sort.swp dk iC jF = d7 at hk7 ⊢
                generalize hw7 : Sort.putRow enc8 (Sort.ahead w _) g 0 d7 = w7
                have hwr7 : Aside (w7 = Sort.putRow enc8 (Sort.ahead w _) g 0 d7) := hw7.symm
                clear hw7
                go_wp2
                go_roundg (nj7 + 1 - ni7)
                case measure => have := hg3.out; have := hgC.out; have := hgF.out; have := HNI7.out; have := HNJ7.out; have := HLT7.out; have := hleF.out; have := hgeC.out; omega
                case rel => exact ⟨ni7, nj7, _, _, _, d7, rfl, rfl, ⟨by first | exact HNWI7.out | rfl⟩, ⟨by first | exact HNWJ7.out | rfl⟩, ⟨by have := hgeC.out; have := hge3.out; have := HNI7.out; omega⟩, ⟨by have := HNI7.out; have := HNJ7.out; have := HLT7.out; omega⟩, ⟨by have := hleF.out; have := hjb3.out; have := HNJ7.out; omega⟩, ⟨by have := HNI7.out; have := HNJ7.out; have := HLT7.out; omega⟩, hk7, hwr7⟩
            · have hijzF : ¬ (iC : Int) ≤ (jF : Int) := by omega
              go_wp2
              go_quiet (fail)
              go_wp2
              go_ret
              exact ⟨iC, _, dk, rfl, (by have := hgeC.out; have := hge3.out; have := HA1.out; omega), (by have := hgC.out; have := HJBwr.out; omega), hk3.out, put_drewN hwr3.out _⟩
        · have hbC : decide (xawr < xiC) = false := decide_eq_false hcC
          obtain ⟨nC, hnC⟩ : ∃ n, n = iC + 1 := ⟨_, rfl⟩
          have hnwC : wrap64 ((iC : Int) + 1) = (nC : Int) := by have := HJBwr.out; have := HN.out; have := HB.out; rw [wrap_id (by omega) (by omega)]; omega
          have HNXC := Aside0.mk hnC
          clear hnC
          go_wp2
          go_quiet ((go_at_call 86; refine (less_any xawr xiC _).mono ?_; rw [hbC]; rintro e w' ⟨rfl, ⟨nd, rfl⟩⟩; with_reducible first | exact ⟨rfl, _, (World.drewN_drewN _ _ _).trans (congrArg wr.drewN (Nat.add_assoc _ _ _))⟩ | exact ⟨rfl, _, World.drewN_drewN _ _ _⟩ | exact ⟨rfl, _, rfl⟩))
          go_wp2
          go_roundg (j3 + 1 - nC)
          case measure => have := hgC.out; have := HNXC.out; omega
          case rel => exact ⟨nC, _, rfl, ⟨by first | exact hnwC | rfl⟩, ⟨by have := hgeC.out; have := HNXC.out; omega⟩, ⟨by have := HNXC.out; omega⟩, ⟨by with_reducible first | exact ⟨_, rfl⟩ | exact ⟨_, World.drewN_drewN _ _ _⟩⟩⟩
      · have hijzC : ¬ (iC : Int) ≤ (j3 : Int) := by omega
        go_wp2
        go_quiet (fail)
        go_wp2
        go_loopg [10] 0 (fun gk v wv => ∃ z : Int, v = .int .i64 z ∧ Aside0 (z = (j3 : Int)) ∧ Aside0 (∃ q, wv = wr.drewN q))
        case atStart => exact ⟨_, rfl, ⟨by first | rfl | assumption⟩, ⟨by with_reducible first | exact ⟨_, rfl⟩ | exact ⟨_, World.drewN_drewN _ _ _⟩⟩⟩
        case round =>
          obtain ⟨zE, rfl, hzE, hwE⟩ := hrel
          obtain rfl : zE = (j3 : Int) := hzE.out
          clear hzE
          obtain ⟨qE, rfl⟩ := hwE.out
          clear hwE
          go_wp2
          go_quiet (fail)
          go_wp2
          go_ret
          exact ⟨iC, _, dk, rfl, (by have := hgeC.out; have := hge3.out; have := HA1.out; omega), (by have := hgC.out; have := HJBwr.out; omega), hk3.out, put_drewN hwr3.out _⟩

end Go.Proofs.Ytpdcjkiejglaiaa.Q

/-
  The choice of a pivot on bytes (13 to 49 of them), and the partial insertion sort of so few: nothing of the row turns.
-/
namespace Go.Proofs.Ytpdcjkiejglaiaa.Q
open Go.RowKit Go.Proofs.YtpdcjkiejglaiaaW.PrintWords Go.Proofs.YtpdcjkiejglaiaaW.PrintLast Go.Proofs.YtpdcjkiejglaiaaW.PrintMore
set_option linter.unusedVariables false
set_option linter.unusedSimpArgs false

theorem holds_below {w w' : World} {g B : Nat} {d : Array Int} (h : Sort.Holds enc8 w g 0 d) (hb : Below B w w') (hg : g < B) : Sort.Holds enc8 w' g 0 d := fun j hj => by
  rw [hb.cell (p := ⟨g, 0 + j, none⟩) hg, hb.frozen (p := ⟨g, 0 + j, none⟩) hg]
  exact h j hj
theorem holds_at {w : World} {g N : Nat} {d : Array Int} (h : Sort.Holds enc8 w g 0 d) (hd : d.size = N) (i : Nat) (hi : i < N) : w.cell? ⟨g, i, none⟩ = some (.int .u8 d[i]!) := by
  have := (h i (by omega)).1
  rw [Nat.zero_add] at this
  exact this
theorem below_set {B : Nat} {w0 w : World} (h : Below B w0 w) (p : Nat) (v : Value) (hp : B ≤ p) : Below B w0 (w.setCell ⟨p, 0, none⟩ v) :=
  ⟨h.os, h.tape, h.output, by simpa [World.setCell] using h.size, fun k hk => by
    rw [← h.block k hk]
    simp [World.setCell, Array.getElem?_modify, show p ≠ k by omega]⟩
theorem box_set {w : World} {p : Nat} {s t : Int} (h : w.heap[p]? = some (.cells #[.int .i64 s] 3 (0, 0))) : (w.setCell ⟨p, 0, none⟩ (.int .i64 t)).heap[p]? = some (.cells #[.int .i64 t] 3 (0, 0)) := by
  simp [World.setCell, Array.getElem?_modify, h]

set_option maxHeartbeats 4000000 in
set_option maxRecDepth 100000 in
theorem order2_any (g cap N i j p : Nat) (s : Int) (d : Array Int) (w : World) (hH : Sort.Holds enc8 w g 0 d) (hd : d.size = N) (hN : N ≤ 1000) (hi : i < N) (hj : j < N) (hb : w.heap[p]? = some (.cells #[.int .i64 s] 3 (0, 0))) (h0 : 0 ≤ s) (h9 : s ≤ 100) :
    Calls Try.prog 105 #[.slice (some ⟨g, 0, none⟩) N cap, .int .i64 i, .int .i64 j, .pointer (some ⟨p, 0, none⟩)] w fun e w' => ∃ (u v : Nat) (t : Int), e = .returned (.tuple #[.int .i64 u, .int .i64 v]) ∧ ((u = i ∧ v = j) ∨ (u = j ∧ v = i)) ∧ Below p w w' ∧ w'.heap[p]? = some (.cells #[.int .i64 t] 3 (0, 0)) ∧ s ≤ t ∧ t ≤ s + 1 := by
  have ci := holds_at hH hd i hi
  have cj := holds_at hH hd j hj
  generalize d[i]! = x at ci
  generalize d[j]! = y at cj
  have li : (i : Int) < (N : Int) := by omega
  have lj : (j : Int) < (N : Int) := by omega
  have e1 : wrap64 (s + 1) = s + 1 := by rw [wrap_id (by omega) (by omega)]
  have HBX := Aside0.mk hb
  by_cases hc : y < x
  · have hbd : decide (y < x) = true := decide_eq_true hc
    go_enter Try.func105, Try.ntmps105
    go_wp2
    go_quiet ((go_at_call 86; refine (less_any y x _).mono ?_; rw [hbd]; rintro e w' ⟨rfl, ⟨nd, rfl⟩⟩; exact ⟨rfl, _, World.drewN_drewN _ _ _⟩))
    have cb := cell_of_one HBX.out
    have fb : w.frozen? ⟨p, 0, none⟩ = false := by simp [World.frozen?, HBX.out]
    go_wp2
    go_ret2
    refine ⟨j, i, s + 1, rfl, .inr ⟨rfl, rfl⟩, ?_, ?_, by omega, by omega⟩
    · exact below_set (pw_below_drewN (Below.refl p w) _) p _ (Nat.le_refl _)
    · exact box_set (s := s) HBX.out
  · have hbd : decide (y < x) = false := decide_eq_false hc
    go_enter Try.func105, Try.ntmps105
    go_wp2
    go_quiet ((go_at_call 86; refine (less_any y x _).mono ?_; rw [hbd]; rintro e w' ⟨rfl, ⟨nd, rfl⟩⟩; exact ⟨rfl, _, World.drewN_drewN _ _ _⟩))
    go_wp2
    go_ret2
    exact ⟨i, j, s, rfl, .inl ⟨rfl, rfl⟩, pw_below_drewN (Below.refl p w) _, HBX.out, by omega, by omega⟩

set_option maxHeartbeats 4000000 in
set_option maxRecDepth 100000 in
theorem median_any (g cap N i j k p : Nat) (d : Array Int) (w : World) (hH : Sort.Holds enc8 w g 0 d) (hd : d.size = N) (hN : N ≤ 1000) (hgp : g < p) (hi : i < N) (hj : j < N) (hk : k < N) (hb : w.heap[p]? = some (.cells #[.int .i64 0] 3 (0, 0))) :
    Calls Try.prog 101 #[.slice (some ⟨g, 0, none⟩) N cap, .int .i64 i, .int .i64 j, .int .i64 k, .pointer (some ⟨p, 0, none⟩)] w fun e w' => ∃ (u : Nat) (t : Int), e = .returned (.int .i64 u) ∧ (u = i ∨ u = j ∨ u = k) ∧ Below p w w' ∧ w'.heap[p]? = some (.cells #[.int .i64 t] 3 (0, 0)) ∧ 0 ≤ t ∧ t ≤ 3 := by
  have O : ∀ (W : World) (x y : Nat) (s : Int), Below p w W → x < N → y < N → W.heap[p]? = some (.cells #[.int .i64 s] 3 (0, 0)) → 0 ≤ s → s ≤ 100 → _ := fun W x y s hB hx hy hbx h0 h9 => order2_any g cap N x y p s d W (holds_below hH hB hgp) hd hN hx hy hbx h0 h9
  have HO := Aside0.mk O
  have HBX := Aside0.mk hb
  have HI := Aside0.mk hi
  have HJ := Aside0.mk hj
  have HK := Aside0.mk hk
  clear O hb hH hd hi hj hk hN hgp
  go_enter Try.func101, Try.ntmps101
  go_wp2_with (first | (go_at_call 105; with_reducible refine (HO.out w i j 0 (Below.refl p w) HI.out HJ.out HBX.out (by omega) (by omega)).mono ?_; rintro e w1 ⟨u1, v1, t1, rfl, h1, hB1, hx1, ha1, hb1⟩; have B1 := Aside0.mk hB1; have X1 := Aside0.mk hx1; have C1 := Aside0.mk h1; have D1 : Aside0 (u1 < N ∧ v1 < N) := Aside0.mk (by have := HI.out; have := HJ.out; omega); have A1 := Aside0.mk ha1; have Z1 := Aside0.mk hb1; clear hB1 hx1 h1 ha1 hb1) | (go_at_call 105; with_reducible refine (HO.out w1 v1 k t1 B1.out D1.out.2 HK.out X1.out (by have := A1.out; omega) (by have := Z1.out; omega)).mono ?_; rintro e w2 ⟨u2, v2, t2, rfl, h2, hB2, hx2, ha2, hb2⟩; have B2 := Aside0.mk (Below.trans B1.out hB2); have X2 := Aside0.mk hx2; have C2 := Aside0.mk h2; have D2 : Aside0 (u2 < N ∧ v2 < N) := Aside0.mk (by have := HK.out; have := D1.out; omega); have A2 := Aside0.mk ha2; have Z2 := Aside0.mk hb2; clear hB2 hx2 h2 ha2 hb2) | (go_at_call 105; with_reducible refine (HO.out w2 u1 u2 t2 B2.out D1.out.1 D2.out.1 X2.out (by have := A1.out; have := A2.out; omega) (by have := Z1.out; have := Z2.out; omega)).mono ?_; rintro e w3 ⟨u3, v3, t3, rfl, h3, hB3, hx3, ha3, hb3⟩))
  go_ret
  refine ⟨v3, t3, rfl, ?_, Below.trans B2.out hB3, hx3, by have := A1.out; have := A2.out; omega, by have := Z1.out; have := Z2.out; omega⟩
  have := C1.out
  have := C2.out
  omega

end Go.Proofs.Ytpdcjkiejglaiaa.Q

/-
  The choice of a pivot on 13 to 49 bytes: nothing of the row turns.
-/
namespace Go.Proofs.Ytpdcjkiejglaiaa.Q
open Go.RowKit Go.Proofs.YtpdcjkiejglaiaaW.PrintWords Go.Proofs.YtpdcjkiejglaiaaW.PrintLast Go.Proofs.YtpdcjkiejglaiaaW.PrintMore
set_option linter.unusedVariables false
set_option linter.unusedSimpArgs false

theorem pivot_nums (a b : Nat) (hl : 13 ≤ b - a) (hl2 : b - a ≤ 49) (hb : b ≤ 1000) : ∃ L q q2 q3 I J K : Nat, wrap64 ((b : Int) - (a : Int)) = (L : Int) ∧ Int.tdiv (L : Int) 4 = (q : Int) ∧ wrap64 (q : Int) = (q : Int) ∧ wrap64 ((q : Int) * 1) = (q : Int) ∧ wrap64 ((q : Int) * 2) = (q2 : Int) ∧ wrap64 ((q : Int) * 3) = (q3 : Int) ∧
    wrap64 ((a : Int) + (q : Int)) = (I : Int) ∧ wrap64 ((a : Int) + (q2 : Int)) = (J : Int) ∧ wrap64 ((a : Int) + (q3 : Int)) = (K : Int) ∧ ((8 : Int) ≤ (L : Int)) = True ∧ ((50 : Int) ≤ (L : Int)) = False ∧ (a < I ∧ I < b) ∧ (a < J ∧ J < b) ∧ (a < K ∧ K < b) := by
  obtain ⟨L, hL⟩ : ∃ L, L = b - a := ⟨_, rfl⟩
  obtain ⟨q, hq⟩ : ∃ q, q = L / 4 := ⟨_, rfl⟩
  have hq0 : Int.tdiv (L : Int) 4 = (q : Int) := by rw [hq]; rfl
  have h3 : 3 ≤ q := by omega
  have h4 : q * 4 ≤ L := by omega
  clear hq
  have r1 : q ≤ 1000 := by omega
  refine ⟨L, q, q * 2, q * 3, a + q, a + q * 2, a + q * 3, wrapU ?_ ?_ ?_, hq0, wrapU ?_ ?_ ?_, wrapU ?_ ?_ ?_, wrapU ?_ ?_ ?_, wrapU ?_ ?_ ?_, wrapU ?_ ?_ ?_, wrapU ?_ ?_ ?_, wrapU ?_ ?_ ?_, eq_true ?_, eq_false ?_, ?_, ?_, ?_⟩
  all_goals clear hq0
  all_goals omega

set_option maxHeartbeats 4000000 in
set_option maxRecDepth 100000 in
theorem pivot_any (g cap N a b : Nat) (d : Array Int) (w : World) (hH : Sort.Holds enc8 w g 0 d) (hd : d.size = N) (hg : g < w.heap.size) (hb : b ≤ N) (hl : 13 ≤ b - a) (hl2 : b - a ≤ 49) (hN : N ≤ 1000) :
    Calls Try.prog 83 #[.slice (some ⟨g, 0, none⟩) N cap, .int .i64 a, .int .i64 b] w fun e w' => ∃ (u : Nat) (h : Int), e = .returned (.tuple #[.int .i64 u, .int .i64 h]) ∧ a < u ∧ u < b ∧ (h = 0 ∨ h = 1) ∧ Below w.heap.size w w' := by
  obtain ⟨L, q, q2, q3, I, J, K, eL, eq0, eq1, m1, m2, m3, s1, s2, s3, c8, c50, bI, bJ, bK⟩ := pivot_nums a b hl hl2 (by omega)
  have bI2 : I < N := Nat.lt_of_lt_of_le bI.2 hb
  have bJ2 : J < N := Nat.lt_of_lt_of_le bJ.2 hb
  have bK2 : K < N := Nat.lt_of_lt_of_le bK.2 hb
  have M : ∀ W : World, Below w.heap.size w W → W.heap[w.heap.size]? = some (.cells #[.int .i64 0] 3 (0, 0)) → _ := fun W hB hx => median_any g cap N I J K w.heap.size d W (holds_below hH hB hg) hd hN hg bI2 bJ2 bK2 hx
  have HM := Aside0.mk M
  have BI := Aside0.mk bI
  have BJ := Aside0.mk bJ
  have BK := Aside0.mk bK
  clear M bI bJ bK bI2 bJ2 bK2 hH hd hg hb hl hl2 hN
  go_enter Try.func83, Try.ntmps83
  go_wp2_with (go_at_call 101; refine (HM.out (w.alloc (.cells #[.int .i64 0] 3)) (below_alloc (Below.refl _ _) _) (heap_alloc_new w _)).mono ?_; rintro e w1 ⟨u, t, rfl, hu, hB1, hx1, ha1, hb1⟩; have cb := cell_of_one hx1; have HB1 := Aside0.mk hB1; have HU := Aside0.mk hu; have HA := Aside0.mk ha1; have HZ := Aside0.mk hb1; have c12n : ¬ t = 12 := fun h => absurd (show (12 : Int) ≤ 3 from h ▸ hb1) (by decide); have c12 : (t == 12) = false := beq_eq_false_iff_ne.mpr c12n; have c12b : decide (t = 12) = false := decide_eq_false c12n; clear hB1 hu ha1 hb1)
  all_goals
    have hu1 : a < u ∧ u < b := by have := HU.out; have := BI.out; have := BJ.out; have := BK.out; clear eL eq1 m1 m2 m3 s1 s2 s3; omega
    have hbw : Below w.heap.size w w1 := Below.trans (below_alloc (Below.refl _ _) _) HB1.out
    first | (exfalso; have := HZ.out; clear eL eq1 m1 m2 m3 s1 s2 s3; omega) | (go_ret2; first | exact ⟨u, 0, rfl, hu1.1, hu1.2, .inl rfl, hbw⟩ | exact ⟨u, 1, rfl, hu1.1, hu1.2, .inr rfl, hbw⟩)

end Go.Proofs.Ytpdcjkiejglaiaa.Q

/-
  The library contracts of bits.Len and of slices.Compact (bytes) at this program, in plain words (printed by the shelf's own two commands).
-/
namespace Go.Proofs
open Go.Shelf
def Try.lays125_ren : Go.Shelf.Ren := ⟨fun | 125 => 71 | 128 => 89 | 129 => 90 | n => n, fun | 46 => 71 | 3 => 3 | 51 => 94 | 53 => 96 | 4 => 4 | 5 => 5 | 9 => 9 | n => n, fun | n => n⟩
theorem Try.lays125 : Go.Proofs.Lays.n125 Try.prog Try.lays125_ren := {
  mixed := by kernel_rfl
  f125 := Try.func71.trans (congrArg some (by kernel_rfl))
  f128 := Try.func89.trans (congrArg some (by kernel_rfl))
  f129 := Try.func90.trans (congrArg some (by kernel_rfl))
  t3 := Try.underlying3
  a3 := Try.isAgg3
  z3 := Try.sizeOf3
  v3 := Try.zeroValue3
  t4 := Try.underlying4
  a4 := Try.isAgg4
  z4 := Try.sizeOf4
  v4 := Try.zeroValue4
  t5 := Try.underlying5
  a5 := Try.isAgg5
  z5 := Try.sizeOf5
  v5 := Try.zeroValue5
  t9 := Try.underlying9
  a9 := Try.isAgg9
  z9 := Try.sizeOf9
  v9 := Try.zeroValue9
  t46 := Try.underlying71
  a46 := Try.isAgg71
  z46 := Try.sizeOf71
  v46 := Try.zeroValue71
  t51 := Try.underlying94
  a51 := Try.isAgg94
  z51 := Try.sizeOf94
  v51 := Try.zeroValue94
  t53 := Try.underlying96
  a53 := Try.isAgg96
  z53 := Try.sizeOf96
  v53 := Try.zeroValue96 }
theorem Try.bits_Len (x : Int) (w : World) (h0 : 0 ≤ x) (h1 : x ≤ 18446744073709551615) :
    Calls Try.prog 71 #[.int .u64 x] w fun e w' => e = .returned (.int .i64 (Lib.bitLen x.toNat)) ∧ w' = w := Any.bits_Len Try.lays125 x w h0 h1
def Try.laysCompact_ren : Go.Shelf.Ren := ⟨fun | 43 => 64 | n => n, fun | 22 => 39 | 23 => 5 | 3 => 3 | 4 => 4 | 0 => 0 | n => n, fun | n => n⟩
theorem Try.laysCompact : Go.Proofs.SlLaysE.n43 Try.prog Try.laysCompact_ren := {
  mixed := by kernel_rfl
  f43 := ⟨Try.f64.name, by decide, Try.func64.trans (congrArg some (by kernel_rfl))⟩
  t0 := Try.underlying0
  a0 := Try.isAgg0
  z0 := Try.sizeOf0
  v0 := Try.zeroValue0
  t3 := Try.underlying3
  a3 := Try.isAgg3
  z3 := Try.sizeOf3
  v3 := Try.zeroValue3
  t4 := Try.underlying4
  a4 := Try.isAgg4
  z4 := Try.sizeOf4
  v4 := Try.zeroValue4
  t22 := Try.underlying39
  a22 := Try.isAgg39
  z22 := Try.sizeOf39
  v22 := Try.zeroValue39
  a23 := Try.isAgg5
  z23 := Try.sizeOf5 }
end Go.Proofs

/-
  The random step of breakPatterns, and the partial insertion sort of fewer than fifty bytes.
-/
namespace Go.Proofs.Ytpdcjkiejglaiaa.Q
open Go.RowKit Go.Proofs.YtpdcjkiejglaiaaW.PrintWords Go.Proofs.YtpdcjkiejglaiaaW.PrintLast Go.Proofs.YtpdcjkiejglaiaaW.PrintMore
set_option linter.unusedVariables false
set_option linter.unusedSimpArgs false

theorem bits_range (op : BinOp) (x y : Int) : 0 ≤ bits op .u64 x y ∧ bits op .u64 x y < 18446744073709551616 := by
  unfold bits
  simp only [IntKind.wrap_u64]
  omega
theorem box_set8 {w : World} {p : Nat} {s t : Int} (h : w.heap[p]? = some (.cells #[.int .u64 s] 102 (0, 0))) : (w.setCell ⟨p, 0, none⟩ (.int .u64 t)).heap[p]? = some (.cells #[.int .u64 t] 102 (0, 0)) := by
  simp [World.setCell, Array.getElem?_modify, h]
set_option maxHeartbeats 4000000 in
set_option maxRecDepth 100000 in
theorem next_any (p : Nat) (x : Int) (w : World) (hb : w.heap[p]? = some (.cells #[.int .u64 x] 102 (0, 0))) :
    Calls Try.prog 99 #[.pointer (some ⟨p, 0, none⟩)] w fun e w' => ∃ y : Int, e = .returned (.int .u64 y) ∧ Below p w w' ∧ w'.heap[p]? = some (.cells #[.int .u64 y] 102 (0, 0)) ∧ 0 ≤ y ∧ y < 18446744073709551616 := by
  have cb := cell_of_one hb
  have fb : w.frozen? ⟨p, 0, none⟩ = false := by simp [World.frozen?, hb]
  have HB := Aside0.mk hb
  clear hb
  go_enter Try.func99, Try.ntmps99
  go_wp2
  go_region
  generalize hy1 : bits BinOp.xor IntKind.u64 _ _ = y1
  have X1 := Aside0.mk (box_set8 (t := y1) HB.out)
  have B1 := Aside0.mk (below_drew1 (below_set (Below.refl p w) p (.int .u64 y1) (Nat.le_refl _)))
  generalize hw1 : (World.setCell _ _ _).drew = w1
  rw [hw1] at B1
  replace X1 : Aside0 (w1.heap[p]? = some (.cells #[.int .u64 y1] 102 (0, 0))) := Aside0.mk (by rw [← hw1]; exact X1.out)
  clear hy1 hw1
  have c1 := cell_of_one X1.out
  have f1 : w1.frozen? ⟨p, 0, none⟩ = false := by simp [World.frozen?, X1.out]
  go_wp2
  go_region
  generalize hy2 : bits BinOp.xor IntKind.u64 _ _ = y2
  have X2 := Aside0.mk (box_set8 (t := y2) X1.out)
  have B2 := Aside0.mk (below_drew1 (below_set B1.out p (.int .u64 y2) (Nat.le_refl _)))
  generalize hw2 : (World.setCell _ _ _).drew = w2
  rw [hw2] at B2
  replace X2 : Aside0 (w2.heap[p]? = some (.cells #[.int .u64 y2] 102 (0, 0))) := Aside0.mk (by rw [← hw2]; exact X2.out)
  clear hy2 hw2
  have c2 := cell_of_one X2.out
  have f2 : w2.frozen? ⟨p, 0, none⟩ = false := by simp [World.frozen?, X2.out]
  go_wp2
  go_region
  generalize hy3 : bits BinOp.xor IntKind.u64 _ _ = y3
  have X3 := Aside0.mk (box_set8 (t := y3) X2.out)
  have B3 := Aside0.mk (below_drew1 (below_set B2.out p (.int .u64 y3) (Nat.le_refl _)))
  generalize hw3 : (World.setCell _ _ _).drew = w3
  rw [hw3] at B3
  replace X3 : Aside0 (w3.heap[p]? = some (.cells #[.int .u64 y3] 102 (0, 0))) := Aside0.mk (by rw [← hw3]; exact X3.out)
  have R3 : 0 ≤ y3 ∧ y3 < 18446744073709551616 := by rw [← hy3]; exact bits_range _ _ _
  clear hy3 hw3
  have c3 := cell_of_one X3.out
  have f3 : w3.frozen? ⟨p, 0, none⟩ = false := by simp [World.frozen?, X3.out]
  go_wp2
  go_ret
  exact ⟨y3, rfl, B3.out, X3.out, R3.1, R3.2⟩

theorem u64_small (n : Nat) (hn : n ≤ 100) : IntKind.u64.wrap (n : Int) = (n : Int) := by
  rw [IntKind.wrap_u64]
  omega
/-- the power of two above a length of 13 to 17 -/
def powOf (L : Nat) : Nat := if L ≤ 15 then 16 else 32
set_option maxHeartbeats 4000000 in
set_option maxRecDepth 100000 in
theorem npow_any (L : Nat) (h1 : 13 ≤ L) (h2 : L ≤ 17) (w : World) : Calls Try.prog 98 #[.int .i64 L] w fun e w' => e = .returned (.int .u64 (powOf L)) ∧ w' = w := by
  have e1 := u64_small L (by omega)
  have hb : Lib.bitLen L = if L ≤ 15 then 4 else 5 := by
    obtain rfl | rfl | rfl | rfl | rfl : L = 13 ∨ L = 14 ∨ L = 15 ∨ L = 16 ∨ L = 17 := by omega
    all_goals decide
  by_cases c : L ≤ 15
  · rw [if_pos c] at hb
    have hp : powOf L = 16 := if_pos c
    rw [hp]
    go_enter Try.func98, Try.ntmps98
    go_wp2_with (go_at_call 71; refine (Try.bits_Len (L : Int) _ (by omega) (by omega)).mono ?_; rw [Int.toNat_natCast, hb]; rintro e w1 ⟨rfl, rfl⟩)
    go_ret
    exact ⟨rfl, rfl⟩
  · rw [if_neg c] at hb
    have hp : powOf L = 32 := if_neg c
    rw [hp]
    go_enter Try.func98, Try.ntmps98
    go_wp2_with (go_at_call 71; refine (Try.bits_Len (L : Int) _ (by omega) (by omega)).mono ?_; rw [Int.toNat_natCast, hb]; rintro e w1 ⟨rfl, rfl⟩)
    go_ret
    exact ⟨rfl, rfl⟩

end Go.Proofs.Ytpdcjkiejglaiaa.Q

/-
  breakPatterns on 13 to 17 bytes: the row stays one of the same length.
-/
namespace Go.Proofs.Ytpdcjkiejglaiaa.Q
open Go.RowKit Go.Proofs.YtpdcjkiejglaiaaW.PrintWords Go.Proofs.YtpdcjkiejglaiaaW.PrintLast Go.Proofs.YtpdcjkiejglaiaaW.PrintMore
set_option linter.unusedVariables false
set_option linter.unusedSimpArgs false

/-- of what was there, the row g alone may have turned; it is a row of N bytes -/
structure Mess (g N : Nat) (w w' : World) : Prop where
  os : w'.os = w.os
  tape : w'.tape = w.tape
  output : w'.output = w.output
  size : w.heap.size ≤ w'.heap.size
  other : ∀ k, k < w.heap.size → k ≠ g → w'.heap[k]? = w.heap[k]?
  row : ∃ d : Array Int, d.size = N ∧ Sort.Holds enc8 w' g 0 d
theorem Mess.refl {g N : Nat} {w : World} {d : Array Int} (h : Sort.Holds enc8 w g 0 d) (hd : d.size = N) : Mess g N w w := ⟨rfl, rfl, rfl, Nat.le_refl _, fun _ _ _ => rfl, d, hd, h⟩
theorem Mess.trans {g N : Nat} {w w1 w2 : World} (h : Mess g N w w1) (k : Mess g N w1 w2) : Mess g N w w2 :=
  ⟨k.os.trans h.os, k.tape.trans h.tape, k.output.trans h.output, Nat.le_trans h.size k.size, fun i hi hg => (k.other i (Nat.lt_of_lt_of_le hi h.size) hg).trans (h.other i hi hg), k.row⟩
theorem Mess.then_below {g N B : Nat} {w w1 w2 : World} (h : Mess g N w w1) (k : Below B w1 w2) (hg : g < B) (hB : w.heap.size ≤ B) : Mess g N w w2 := by
  obtain ⟨d, hd, hH⟩ := h.row
  exact ⟨k.os.trans h.os, k.tape.trans h.tape, k.output.trans h.output, Nat.le_trans h.size k.size, fun i hi hg => (k.block i (by omega)).trans (h.other i hi hg), d, hd, holds_below hH k hg⟩
theorem Mess.put {g N n : Nat} {w w1 : World} {d d' : Array Int} (h : Mess g N w w1) (hH : Sort.Holds enc8 w1 g 0 d) (hd : d.size = N) (hd' : d'.size = N) : Mess g N w (Sort.putRow enc8 (Sort.ahead w1 n) g 0 d') := by
  refine ⟨h.os, h.tape, h.output, by simpa [Sort.putRow, Sort.mapBlock, Sort.ahead] using h.size, fun k hk hg => ?_, d', hd', ?_⟩
  · rw [← h.other k hk hg]
    simp [Sort.putRow, Sort.mapBlock, Sort.ahead, Array.getElem?_modify, show g ≠ k from fun e => hg e.symm]
  · exact Sort.holds_putRow enc8 _ g 0 d d' (Sort.holds_ahead _ _ _ _ _ _ hH) (by omega)
theorem put_other {g p n : Nat} {w : World} {d : Array Int} (h : g ≠ p) : (Sort.putRow enc8 (Sort.ahead w n) g 0 d).heap[p]? = w.heap[p]? := by
  simp [Sort.putRow, Sort.mapBlock, Sort.ahead, Array.getElem?_modify, h]
theorem Mess.toBelow {g N B : Nat} {w w' : World} (h : Mess g N w w') (hB : B ≤ g) (hw : B ≤ w.heap.size) : Below B w w' := ⟨h.os, h.tape, h.output, h.size, fun k hk => h.other k (by omega) (by omega)⟩

theorem mask_of (L : Nat) (h2 : L ≤ 17) (h1 : 13 ≤ L) (y : Int) (h0 : 0 ≤ y) (hy : y < 18446744073709551616) : ∃ (m : Int) (o : Nat), IntKind.u64.wrap ((powOf L : Int) - 1) = m ∧ bits .and .u64 y m = (o : Int) ∧ o < 2 * L := by
  unfold powOf
  by_cases c : L ≤ 15
  · rw [if_pos c]
    have e := bits_mask .u64 64 (by decide) wraps_u64 4 (by decide) y h0 (by simpa using hy)
    refine ⟨15, (y % 16).toNat, by decide, ?_, by omega⟩
    have e2 : ((2 : Int) ^ 4 - 1) = 15 := by decide
    have e3 : ((2 : Int) ^ 4) = 16 := by decide
    rw [e2, e3] at e
    rw [e]
    omega
  · rw [if_neg c]
    have e := bits_mask .u64 64 (by decide) wraps_u64 5 (by decide) y h0 (by simpa using hy)
    refine ⟨31, (y % 32).toNat, by decide, ?_, by omega⟩
    have e2 : ((2 : Int) ^ 5 - 1) = 31 := by decide
    have e3 : ((2 : Int) ^ 5) = 32 := by decide
    rw [e2, e3] at e
    rw [e]
    omega
theorem brk_nums (a b : Nat) (hl : 13 ≤ b - a) (hl2 : b - a ≤ 17) (hb : b ≤ 1000) : ∃ L q q2 J lo hi : Nat, wrap64 ((b : Int) - (a : Int)) = (L : Int) ∧ Int.tdiv (L : Int) 4 = (q : Int) ∧ wrap64 (q : Int) = (q : Int) ∧ wrap64 ((q : Int) * 2) = (q2 : Int) ∧ wrap64 ((a : Int) + (q2 : Int)) = (J : Int) ∧
    wrap64 ((J : Int) - 1) = (lo : Int) ∧ wrap64 ((J : Int) + 1) = (hi : Int) ∧ ((8 : Int) ≤ (L : Int)) = True ∧ (L = b - a ∧ a < lo ∧ hi = lo + 2 ∧ hi < b) := by
  obtain ⟨L, hL⟩ : ∃ L, L = b - a := ⟨_, rfl⟩
  obtain ⟨q, hq⟩ : ∃ q, q = L / 4 := ⟨_, rfl⟩
  have hq0 : Int.tdiv (L : Int) 4 = (q : Int) := by rw [hq]; rfl
  have h3 : 3 ≤ q := by omega
  have h4 : q * 4 ≤ L := by omega
  clear hq
  refine ⟨L, q, q * 2, a + q * 2, a + q * 2 - 1, a + q * 2 + 1, wrapU ?_ ?_ ?_, hq0, wrapU ?_ ?_ ?_, wrapU ?_ ?_ ?_, wrapU ?_ ?_ ?_, wrapU ?_ ?_ ?_, wrapU ?_ ?_ ?_, eq_true ?_, ?_⟩
  all_goals clear hq0
  all_goals omega

theorem small_w (L o : Nat) (h : o < 2 * L) (h2 : L ≤ 17) : wrap64 (o : Int) = (o : Int) ∧ IntKind.i64.wrap (o : Int) = (o : Int) := by
  have e : wrap64 (o : Int) = (o : Int) := wrap_id (by omega) (by omega)
  exact ⟨e, (i64_w _).trans e⟩
theorem small_sub (L o : Nat) (h : o < 2 * L) (h2 : L ≤ 17) (h3 : L ≤ o) : wrap64 ((o : Int) - (L : Int)) = ((o - L : Nat) : Int) := wrapU (by omega) (by omega) (by omega)
theorem small_add (a t N : Nat) (h : a + t < N) (hN : N ≤ 1000) : wrap64 ((a : Int) + (t : Int)) = ((a + t : Nat) : Int) := wrapU (by omega) (by omega) (by omega)
theorem small_one (i : Nat) (h : i ≤ 1000) : wrap64 ((i : Int) + 1) = ((i + 1 : Nat) : Int) := wrapU (by omega) (by omega) (by omega)
theorem mess_swap {g N i t : Nat} {w W : World} {dk : Array Int} (h : Mess g N w W) (hH : Sort.Holds enc8 W g 0 dk) (hd : dk.size = N) (hi : i < dk.size) (ht : t < dk.size) {xi xt : Int} (hxi : dk[i]! = xi) (hxt : dk[t]! = xt) :
    Mess g N w ((W.setCell ⟨g, i, none⟩ (.int .u8 xt)).setCell ⟨g, t, none⟩ (.int .u8 xi)) := by
  have e := put_swap (put_self hH) i t hi ht xi xt hxi hxt
  have hM : Mess g N w ((W.setCell ⟨g, i, none⟩ (.int .u8 xt)).setCell ⟨g, t, none⟩ (.int .u8 xi)).drew := by
    rw [e]
    exact h.put hH hd (by rw [Sort.size_swp]; exact hd)
  exact ⟨hM.os, hM.tape, hM.output, hM.size, hM.other, hM.row⟩
theorem set_cell_in {g N i t : Nat} {W : World} {dk : Array Int} (hH : Sort.Holds enc8 W g 0 dk) (hd : dk.size = N) (hi : i < dk.size) (ht : t < dk.size) {xt : Int} (hxt : dk[t]! = xt) :
    (W.setCell ⟨g, i, none⟩ (.int .u8 xt)).cell? ⟨g, t, none⟩ = some (.int .u8 xt) ∧ (W.setCell ⟨g, i, none⟩ (.int .u8 xt)).frozen? ⟨g, t, none⟩ = false := by
  have e : W.setCell ⟨g, i, none⟩ (.int .u8 xt) = Sort.putRow enc8 (Sort.ahead W 0) g 0 (dk.setIfInBounds i xt) := by
    have := Sort.putRow_set enc8 (Sort.ahead W 0) g 0 dk i xt hi
    rw [Nat.zero_add] at this
    exact (congrArg (fun z => World.setCell z ⟨g, i, none⟩ (.int .u8 xt)) (put_self hH)).trans this
  have h := put_cell hH hd (by simpa using hd) e t (by omega)
  refine ⟨h.1.trans ?_, h.2⟩
  by_cases c : t = i
  · subst c
    rw [Sort.getElem!_set_same dk t xt ht]
  · rw [Sort.getElem!_set_other dk i t xt c, hxt]
def break_any.T10 : Bool × List (List Nat × List Nat) := (true, [([], []), ([], []), ([], []), ([], []), ([], []), ([3, 4], [3, 4]), ([], []), ([], []), ([], []), ([7, 8], [7, 8]), ([6, 9], [6, 9]), ([10], [10]), ([], []), ([], []), ([12, 13], [12, 13]), ([14], [14]), ([0, 1, 0, 1, 6, 7, 8, 9, 10, 11, 15], [0, 1]), ([16, 11, 0, 1, 6, 7, 8, 9, 10, 11, 15], [11, 16]), ([2, 5, 0, 1, 2, 3, 4, 5, 6, 7, 8, 9, 10, 11, 12, 13, 14, 15, 16, 17], [2, 5]), ([18, 15, 17, 0, 1, 2, 3, 4, 5, 6, 7, 8, 9, 10, 11, 12, 13, 14, 15, 16, 17], [15, 18])])
def break_any.B10 : List Nat := [0, 0, 0, 0, 0, 24, 0, 0, 0, 384, 960, 1984, 0, 0, 12288, 28672, 65475, 131011, 262143, 524287]
theorem break_any.tab10 : rtab .any (opsOf Try.f82 10) = break_any.T10 := by kernel_rfl
theorem break_any.bits10 : waitsOk break_any.T10.2 break_any.B10 = true := by kernel_rfl
set_option maxHeartbeats 8000000 in
set_option maxRecDepth 100000 in
theorem break_any (g cap N a b : Nat) (d : Array Int) (w : World) (hH : Sort.Holds enc8 w g 0 d) (hd : d.size = N) (hg : g < w.heap.size) (hb : b ≤ N) (hl : 13 ≤ b - a) (hl2 : b - a ≤ 17) (hN : N ≤ 1000) :
    Calls Try.prog 82 #[.slice (some ⟨g, 0, none⟩) N cap, .int .i64 a, .int .i64 b] w fun e w' => e = .returned (.tuple #[]) ∧ Mess g N w w' := by
  obtain ⟨L, q, q2, J, lo, hi, eL, eq0, eq1, m2, s2, elo, ehi, c8, hLL, hlo, hhi, hib⟩ := brk_nums a b hl hl2 (by omega)
  have eu := u64_small L (by omega)
  have NP := fun W => npow_any L (by omega) (by omega) W
  have MASK := fun y => mask_of L (by omega) (by omega) y
  have ELO := Aside0.mk elo
  clear elo
  have HL17 := Aside0.mk (show L ≤ 17 by omega)
  have HLa := Aside0.mk (show a + L = b by omega)
  have HH := Aside0.mk hH
  have HD := Aside0.mk hd
  have HG := Aside0.mk hg
  have HB := Aside0.mk hb
  have HN := Aside0.mk hN
  have HLL := Aside0.mk hLL
  have HLO := Aside0.mk hlo
  have HHI := Aside0.mk hhi
  have HIB := Aside0.mk hib
  have HNP := Aside0.mk NP
  have HMASK := Aside0.mk MASK
  clear hH hd hg hb hl hl2 hN hLL hlo hhi hib NP MASK
  go_enter Try.func82, Try.ntmps82
  go_wp2_with (go_at_call 98; refine (HNP.out _).mono ?_; rintro e w1 ⟨rfl, rfl⟩)
  have hx0 := heap_alloc_new w (.cells #[.int .u64 (L : Int)] 102)
  have hm0 := (Mess.refl HH.out HD.out).then_below (below_alloc (Below.refl w.heap.size w) (.cells #[.int .u64 (L : Int)] 102)) HG.out (Nat.le_refl _)
  have HX0 := Aside0.mk hx0
  have HM0 := Aside0.mk hm0
  clear hx0 hm0
  simp only [eq1, m2, s2]
  go_loopg [9] (hi + 1 - lo) (fun gk v wr => ∃ (i : Nat) (z : Int), v = .int .i64 z ∧ Aside0 (z = (i : Int)) ∧ Aside0 (lo ≤ i) ∧ Aside0 (gk + i = hi + 1) ∧ Aside0 (∃ x : Int, wr.heap[w.heap.size]? = some (.cells #[.int .u64 x] 102 (0, 0))) ∧ Aside0 (Mess g N w wr))
  case atStart => exact ⟨lo, _, rfl, ⟨by first | exact ELO.out | rfl⟩, ⟨Nat.le_refl _⟩, ⟨by have := HHI.out; clear eL eq1 m2 s2 ehi eu; omega⟩, ⟨_, HX0.out⟩, HM0⟩
  case round =>
    obtain ⟨i, z, rfl, hz, hlo, hg, hx, hm⟩ := hrel
    obtain rfl : z = (i : Int) := hz.out
    clear hz
    obtain ⟨x, hx⟩ := hx.out
    have HX := Aside0.mk hx
    clear hx
    by_cases hi2 : i ≤ hi
    · have hi3 : (i : Int) ≤ (hi : Int) := Int.ofNat_le.2 hi2
      go_wp2_with (go_at_call 99; refine (next_any w.heap.size x wr HX.out).mono ?_; rintro e w1 ⟨y, rfl, hB1, hx1, hy0, hy1⟩; obtain ⟨m, o, hm1, ho, hoL⟩ := HMASK.out y hy0 hy1; have HB1 := Aside0.mk hB1; have HX1 := Aside0.mk hx1; have ew := (small_w L o hoL HL17.out).1; have HOL := Aside0.mk hoL; clear hB1 hx1 hy0 hy1 hoL)
      · -- the other is at least the length
        have hM1 := Mess.then_below hm.out HB1.out HG.out (Nat.le_refl _)
        obtain ⟨dk, hdk, hHk⟩ := hM1.row
        have HGI := Aside0.mk hg.out
        have HLOI := Aside0.mk hlo.out
        have HI2 := Aside0.mk hi2
        have HE1 : Aside0 (wrap64 ((i : Int) + 1) = ((i + 1 : Nat) : Int)) := Aside0.mk (small_one i (by have := HIB.out; have := HB.out; have := HN.out; clear eL eq0 eq1 m2 s2 ehi eu ew hm1 ho; omega))
        have hcase : L ≤ o := by clear eL eq0 eq1 m2 s2 ehi eu ew hm1 ho hm hg hlo hHk hM1; omega
        obtain ⟨o2, ho2⟩ : ∃ o2, o2 = o - L := ⟨_, rfl⟩
        have eo2 : wrap64 ((o : Int) - (L : Int)) = (o2 : Int) := by rw [ho2]; exact small_sub L o HOL.out HL17.out hcase
        obtain ⟨t, ht⟩ : ∃ t, t = a + o2 := ⟨_, rfl⟩
        have tb : t < b := by have := HLa.out; have := HOL.out; clear eL eq0 eq1 m2 s2 ehi eu ew hm1 ho eo2; omega
        have et : wrap64 ((a : Int) + (o2 : Int)) = (t : Int) := by rw [ht]; exact small_add a o2 N (by have := HB.out; clear eL eq0 eq1 m2 s2 ehi eu ew hm1 ho eo2; omega) HN.out
        clear ho2
        clear ht
        have tN : t < dk.size := by rw [hdk]; exact Nat.lt_of_lt_of_le tb HB.out
        have iN : i < dk.size := by rw [hdk]; exact Nat.lt_of_lt_of_le (Nat.lt_of_le_of_lt hi2 HIB.out) HB.out
        have ci := holds_at hHk hdk i (by rw [← hdk]; exact iN)
        have ct := holds_at hHk hdk t (by rw [← hdk]; exact tN)
        have fi := (hHk i iN).2
        have ft := (hHk t tN).2
        rw [Nat.zero_add] at fi ft
        obtain ⟨xi, hxi⟩ : ∃ x, dk[i]! = x := ⟨_, rfl⟩
        obtain ⟨xt, hxt⟩ : ∃ x, dk[t]! = x := ⟨_, rfl⟩
        rw [hxi] at ci
        rw [hxt] at ct
        have li : (i : Int) < (N : Int) := Int.ofNat_lt.2 (by rw [← hdk]; exact iN)
        have lt : (t : Int) < (N : Int) := Int.ofNat_lt.2 (by rw [← hdk]; exact tN)
        have c2 := (set_cell_in hHk hdk iN tN hxt).1
        have f2 := (set_cell_in hHk hdk iN tN hxt).2
        have hM1 := hM1.then_below (below_drew (Below.refl _ _)) HG.out (Nat.le_refl _)
        have HS := Aside0.mk (mess_swap hM1 (hHk : Sort.Holds enc8 (w1.drew) g 0 dk) hdk iN tN hxi hxt)
        have HXX := Aside0.mk (((Below.heap_setCell ((w1.drew).setCell ⟨g, i, none⟩ (.int .u8 xt)) ⟨g, t, none⟩ (.int .u8 xi) w.heap.size (Nat.ne_of_gt HG.out)).trans (Below.heap_setCell (w1.drew) ⟨g, i, none⟩ (.int .u8 xt) w.heap.size (Nat.ne_of_gt HG.out))).trans HX1.out)
        replace ci : w1.drew.cell? ⟨g, i, none⟩ = some (.int .u8 xi) := ci
        replace ct : w1.drew.cell? ⟨g, t, none⟩ = some (.int .u8 xt) := ct
        replace fi : w1.drew.frozen? ⟨g, i, none⟩ = false := fi
        replace ft : w1.drew.frozen? ⟨g, t, none⟩ = false := ft
        replace c2 : (w1.drew.setCell ⟨g, i, none⟩ (.int .u8 xt)).cell? ⟨g, t, none⟩ = some (.int .u8 xt) := c2
        replace f2 : (w1.drew.setCell ⟨g, i, none⟩ (.int .u8 xt)).frozen? ⟨g, t, none⟩ = false := f2
        clear hM1 hHk hm HB1 HX1
        refine start_ (n := 20) (S := fun w' => w'.cell? ⟨g, t, none⟩ = some (.int .u8 xt) ∧ w'.cell? ⟨g, i, none⟩ = some (.int .u8 xi)) (ds := [17, 19]) #[false, false, false, false, false, false, false, false, false, false, false, false, false, false, false, false, false, false, false, false] (by kernel_rfl) rfl rfl ⟨ct, ci⟩ (fun hHeld => ?_)
        generalize w1.drew = w10 at HS HXX c2 f2 fi ft ci ct hHeld ⊢
        refine with_tabW break_any.tab10 break_any.bits10 (fun HT_ HW_ => ?_)
        refine pure_ (i := 0) (N := some 47) (v := ?_) (a' := ?_) #[true, false, false, false, false, false, false, false, false, false, false, false, false, false, false, false, false, false, false, false] rfl rfl (any_of HT_.out (by kernel_rfl)) (fun _ _ _ h => h) (Or.inl ⟨by rfl, ?_⟩) ?_ ?_
        rotate_left
        · intro w'
          go_simp
          with_reducible rfl
        rotate_left
        · simp only [Act.put, List.setIfInBounds_toArray, List.set_cons_zero, List.set_cons_succ, i64_w, i32_w]
          rfl
        refine pure_ (i := 1) (N := some 48) (v := ?_) (a' := ?_) #[true, true, false, false, false, false, false, false, false, false, false, false, false, false, false, false, false, false, false, false] rfl rfl (any_of HT_.out (by kernel_rfl)) (fun _ _ _ h => h) (Or.inl ⟨by rfl, ?_⟩) ?_ ?_
        rotate_left
        · intro w'
          go_simp
          with_reducible rfl
        rotate_left
        · simp only [Act.put, List.setIfInBounds_toArray, List.set_cons_zero, List.set_cons_succ, i64_w, i32_w]
          rfl
        refine pure_ (i := 2) (N := some 49) (v := ?_) (a' := ?_) #[true, true, true, false, false, false, false, false, false, false, false, false, false, false, false, false, false, false, false, false] rfl rfl (any_of HT_.out (by kernel_rfl)) (fun _ _ _ h => h) (Or.inl ⟨by rfl, ?_⟩) ?_ ?_
        rotate_left
        · intro w'
          go_simp
          with_reducible rfl
        rotate_left
        · simp only [Act.put, List.setIfInBounds_toArray, List.set_cons_zero, List.set_cons_succ, i64_w, i32_w]
          rfl
        refine pure_ (i := 3) (N := some 50) (v := ?_) (a' := ?_) #[true, true, true, true, false, false, false, false, false, false, false, false, false, false, false, false, false, false, false, false] rfl rfl (any_of HT_.out (by kernel_rfl)) (fun _ _ _ h => h) (Or.inl ⟨by rfl, ?_⟩) ?_ ?_
        rotate_left
        · intro w'
          go_simp
          with_reducible rfl
        rotate_left
        · simp only [Act.put, List.setIfInBounds_toArray, List.set_cons_zero, List.set_cons_succ, i64_w, i32_w]
          rfl
        refine pure_ (i := 4) (N := some 51) (v := ?_) (a' := ?_) #[true, true, true, true, true, false, false, false, false, false, false, false, false, false, false, false, false, false, false, false] rfl rfl (any_of HT_.out (by kernel_rfl)) (fun _ _ _ h => h) (Or.inl ⟨by rfl, ?_⟩) ?_ ?_
        rotate_left
        · intro w'
          go_simp
          with_reducible rfl
        rotate_left
        · simp only [Act.put, List.setIfInBounds_toArray, List.set_cons_zero, List.set_cons_succ, i64_w, i32_w]
          rfl
        refine pure_ (i := 5) (N := some 52) (v := ?_) (a' := ?_) #[true, true, true, true, true, true, false, false, false, false, false, false, false, false, false, false, false, false, false, false] rfl rfl (any_of HT_.out (by kernel_rfl)) (fun _ _ _ h => h) (Or.inl ⟨by rfl, ?_⟩) ?_ ?_
        rotate_left
        · intro w'
          go_simp
          with_reducible rfl
        rotate_left
        · simp only [Act.put, List.setIfInBounds_toArray, List.set_cons_zero, List.set_cons_succ, i64_w, i32_w]
          rfl
        refine pure_ (i := 6) (N := some 53) (v := ?_) (a' := ?_) #[true, true, true, true, true, true, true, false, false, false, false, false, false, false, false, false, false, false, false, false] rfl rfl (any_of HT_.out (by kernel_rfl)) (fun _ _ _ h => h) (Or.inl ⟨by rfl, ?_⟩) ?_ ?_
        rotate_left
        · intro w'
          go_simp
          with_reducible rfl
        rotate_left
        · simp only [Act.put, List.setIfInBounds_toArray, List.set_cons_zero, List.set_cons_succ, i64_w, i32_w]
          rfl
        refine pure_ (i := 7) (N := some 54) (v := ?_) (a' := ?_) #[true, true, true, true, true, true, true, true, false, false, false, false, false, false, false, false, false, false, false, false] rfl rfl (any_of HT_.out (by kernel_rfl)) (fun _ _ _ h => h) (Or.inl ⟨by rfl, ?_⟩) ?_ ?_
        rotate_left
        · intro w'
          go_simp
          with_reducible rfl
        rotate_left
        · simp only [Act.put, List.setIfInBounds_toArray, List.set_cons_zero, List.set_cons_succ, i64_w, i32_w]
          rfl
        refine pure_ (i := 8) (N := some 55) (v := ?_) (a' := ?_) #[true, true, true, true, true, true, true, true, true, false, false, false, false, false, false, false, false, false, false, false] rfl rfl (any_of HT_.out (by kernel_rfl)) (fun _ _ _ h => h) (Or.inl ⟨by rfl, ?_⟩) ?_ ?_
        rotate_left
        · intro w'
          go_simp
          with_reducible rfl
        rotate_left
        · simp only [Act.put, List.setIfInBounds_toArray, List.set_cons_zero, List.set_cons_succ, i64_w, i32_w]
          rfl
        refine pure_ (i := 9) (N := some 56) (v := ?_) (a' := ?_) #[true, true, true, true, true, true, true, true, true, true, false, false, false, false, false, false, false, false, false, false] rfl rfl (any_of HT_.out (by kernel_rfl)) (fun _ _ _ h => h) (Or.inl ⟨by rfl, ?_⟩) ?_ ?_
        rotate_left
        · intro w'
          go_simp
          with_reducible rfl
        rotate_left
        · simp only [Act.put, List.setIfInBounds_toArray, List.set_cons_zero, List.set_cons_succ, i64_w, i32_w]
          rfl
        refine pure_ (i := 10) (N := some 57) (v := ?_) (a' := ?_) #[true, true, true, true, true, true, true, true, true, true, true, false, false, false, false, false, false, false, false, false] rfl rfl (any_of HT_.out (by kernel_rfl)) (fun _ _ _ h => h) (Or.inl ⟨by rfl, ?_⟩) ?_ ?_
        rotate_left
        · intro w'
          go_simp
          with_reducible rfl
        rotate_left
        · simp only [Act.put, List.setIfInBounds_toArray, List.set_cons_zero, List.set_cons_succ, i64_w, i32_w]
          rfl
        refine pure_ (i := 12) (N := some 59) (v := ?_) (a' := ?_) #[true, true, true, true, true, true, true, true, true, true, true, false, true, false, false, false, false, false, false, false] rfl rfl (any_of HT_.out (by kernel_rfl)) (fun _ _ _ h => h) (Or.inl ⟨by rfl, ?_⟩) ?_ ?_
        rotate_left
        · intro w'
          go_simp
          with_reducible rfl
        rotate_left
        · simp only [Act.put, List.setIfInBounds_toArray, List.set_cons_zero, List.set_cons_succ, i64_w, i32_w]
          rfl
        refine pure_ (i := 13) (N := some 60) (v := ?_) (a' := ?_) #[true, true, true, true, true, true, true, true, true, true, true, false, true, true, false, false, false, false, false, false] rfl rfl (any_of HT_.out (by kernel_rfl)) (fun _ _ _ h => h) (Or.inl ⟨by rfl, ?_⟩) ?_ ?_
        rotate_left
        · intro w'
          go_simp
          with_reducible rfl
        rotate_left
        · simp only [Act.put, List.setIfInBounds_toArray, List.set_cons_zero, List.set_cons_succ, i64_w, i32_w]
          rfl
        refine pure_ (i := 14) (N := some 61) (v := ?_) (a' := ?_) #[true, true, true, true, true, true, true, true, true, true, true, false, true, true, true, false, false, false, false, false] rfl rfl (any_of HT_.out (by kernel_rfl)) (fun _ _ _ h => h) (Or.inl ⟨by rfl, ?_⟩) ?_ ?_
        rotate_left
        · intro w'
          go_simp
          with_reducible rfl
        rotate_left
        · simp only [Act.put, List.setIfInBounds_toArray, List.set_cons_zero, List.set_cons_succ, i64_w, i32_w]
          rfl
        refine take_ (i := 11) (N := some 58) (v := ?_) (a' := ?_) #[true, true, true, true, true, true, true, true, true, true, true, true, true, true, true, false, false, false, false, false] rfl rfl (take_ofW HT_.out HW_.out (by kernel_rfl)) (fun _ _ _ h => h) (Or.inl ⟨by rfl, ?_⟩) hHeld ?_ ?_
        rotate_left
        · rintro w' ⟨s0, s1⟩
          go_simp
          with_reducible rfl
        rotate_left
        · simp only [Act.put, List.setIfInBounds_toArray, List.set_cons_zero, List.set_cons_succ, i64_w, i32_w]
          rfl
        refine take_ (i := 15) (N := some 62) (v := ?_) (a' := ?_) #[true, true, true, true, true, true, true, true, true, true, true, true, true, true, true, true, false, false, false, false] rfl rfl (take_ofW HT_.out HW_.out (by kernel_rfl)) (fun _ _ _ h => h) (Or.inl ⟨by rfl, ?_⟩) hHeld ?_ ?_
        rotate_left
        · rintro w' ⟨s0, s1⟩
          go_simp
          with_reducible rfl
        rotate_left
        · simp only [Act.put, List.setIfInBounds_toArray, List.set_cons_zero, List.set_cons_succ, i64_w, i32_w]
          rfl
        refine pure_ (i := 16) (N := some 63) (v := ?_) (a' := ?_) #[true, true, true, true, true, true, true, true, true, true, true, true, true, true, true, true, true, false, false, false] rfl rfl (any_of HT_.out (by kernel_rfl)) (fun _ _ _ h => h) (Or.inl ⟨by rfl, ?_⟩) ?_ ?_
        rotate_left
        · intro w'
          go_simp
          with_reducible rfl
        rotate_left
        · simp only [Act.put, List.setIfInBounds_toArray, List.set_cons_zero, List.set_cons_succ, i64_w, i32_w]
          rfl
        refine last_ (i := 17) (N := none) #[true, true, true, true, true, true, true, true, true, true, true, true, true, true, true, true, true, true, false, false] rfl rfl (one_of HT_.out (by kernel_rfl)) (by decide) (fun K hK => ?_)
        refine skip_ (w1 := ?_) (by rfl) rfl ?_ ?_
        rotate_left
        · go_simp
          rfl
        refine hK.out _ _ ?_
        clear hK K
        refine pure_ (i := 18) (N := some 64) (v := ?_) (a' := ?_) #[true, true, true, true, true, true, true, true, true, true, true, true, true, true, true, true, true, true, true, false] rfl rfl (any_of HT_.out (by kernel_rfl)) (fun _ _ _ h => h) (Or.inl ⟨by rfl, ?_⟩) ?_ ?_
        rotate_left
        · intro w'
          go_simp
          with_reducible rfl
        rotate_left
        · simp only [Act.put, List.setIfInBounds_toArray, List.set_cons_zero, List.set_cons_succ, i64_w, i32_w]
          rfl
        refine last_ (i := 19) (N := none) #[true, true, true, true, true, true, true, true, true, true, true, true, true, true, true, true, true, true, true, true] rfl rfl (one_of HT_.out (by kernel_rfl)) (by decide) (fun K hK => ?_)
        refine skip_ (w1 := ?_) (by rfl) rfl ?_ ?_
        rotate_left
        · go_simp
          rfl
        refine hK.out _ _ ?_
        clear hK K
        refine done_ (done_of HT_.out (by kernel_rfl)) ?_
        
        generalize (w10.setCell ⟨g, i, none⟩ (.int .u8 xt)).setCell ⟨g, t, none⟩ (.int .u8 xi) = w2 at HS HXX ⊢
        try go_wp2
        go_roundg (hi - i)
        case measure => have := HGI.out; have := HI2.out; omega
        case rel => exact ⟨i + 1, _, rfl, ⟨by first | exact HE1.out | rfl⟩, ⟨by have := HLOI.out; omega⟩, ⟨by have := HGI.out; have := HI2.out; omega⟩, ⟨_, HXX.out⟩, HS⟩
      · -- the other is below it
        have hM1 := Mess.then_below hm.out HB1.out HG.out (Nat.le_refl _)
        obtain ⟨dk, hdk, hHk⟩ := hM1.row
        have HGI := Aside0.mk hg.out
        have HLOI := Aside0.mk hlo.out
        have HI2 := Aside0.mk hi2
        have HE1 : Aside0 (wrap64 ((i : Int) + 1) = ((i + 1 : Nat) : Int)) := Aside0.mk (small_one i (by have := HIB.out; have := HB.out; have := HN.out; clear eL eq0 eq1 m2 s2 ehi eu ew hm1 ho; omega))
        have hcase : o < L := by clear eL eq0 eq1 m2 s2 ehi eu ew hm1 ho hm hg hlo hHk hM1; omega
        obtain ⟨t, ht⟩ : ∃ t, t = a + o := ⟨_, rfl⟩
        have tb : t < b := by have := HLa.out; clear eL eq0 eq1 m2 s2 ehi eu ew hm1 ho; omega
        have et : wrap64 ((a : Int) + (o : Int)) = (t : Int) := by rw [ht]; exact small_add a o N (by have := HB.out; clear eL eq0 eq1 m2 s2 ehi eu ew hm1 ho; omega) HN.out
        clear ht
        have tN : t < dk.size := by rw [hdk]; exact Nat.lt_of_lt_of_le tb HB.out
        have iN : i < dk.size := by rw [hdk]; exact Nat.lt_of_lt_of_le (Nat.lt_of_le_of_lt hi2 HIB.out) HB.out
        have ci := holds_at hHk hdk i (by rw [← hdk]; exact iN)
        have ct := holds_at hHk hdk t (by rw [← hdk]; exact tN)
        have fi := (hHk i iN).2
        have ft := (hHk t tN).2
        rw [Nat.zero_add] at fi ft
        obtain ⟨xi, hxi⟩ : ∃ x, dk[i]! = x := ⟨_, rfl⟩
        obtain ⟨xt, hxt⟩ : ∃ x, dk[t]! = x := ⟨_, rfl⟩
        rw [hxi] at ci
        rw [hxt] at ct
        have li : (i : Int) < (N : Int) := Int.ofNat_lt.2 (by rw [← hdk]; exact iN)
        have lt : (t : Int) < (N : Int) := Int.ofNat_lt.2 (by rw [← hdk]; exact tN)
        have c2 := (set_cell_in hHk hdk iN tN hxt).1
        have f2 := (set_cell_in hHk hdk iN tN hxt).2
        have hM1 := hM1.then_below (below_drew (Below.refl _ _)) HG.out (Nat.le_refl _)
        have HS := Aside0.mk (mess_swap hM1 (hHk : Sort.Holds enc8 (w1.drew) g 0 dk) hdk iN tN hxi hxt)
        have HXX := Aside0.mk (((Below.heap_setCell ((w1.drew).setCell ⟨g, i, none⟩ (.int .u8 xt)) ⟨g, t, none⟩ (.int .u8 xi) w.heap.size (Nat.ne_of_gt HG.out)).trans (Below.heap_setCell (w1.drew) ⟨g, i, none⟩ (.int .u8 xt) w.heap.size (Nat.ne_of_gt HG.out))).trans HX1.out)
        replace ci : w1.drew.cell? ⟨g, i, none⟩ = some (.int .u8 xi) := ci
        replace ct : w1.drew.cell? ⟨g, t, none⟩ = some (.int .u8 xt) := ct
        replace fi : w1.drew.frozen? ⟨g, i, none⟩ = false := fi
        replace ft : w1.drew.frozen? ⟨g, t, none⟩ = false := ft
        replace c2 : (w1.drew.setCell ⟨g, i, none⟩ (.int .u8 xt)).cell? ⟨g, t, none⟩ = some (.int .u8 xt) := c2
        replace f2 : (w1.drew.setCell ⟨g, i, none⟩ (.int .u8 xt)).frozen? ⟨g, t, none⟩ = false := f2
        clear hM1 hHk hm HB1 HX1
        refine start_ (n := 20) (S := fun w' => w'.cell? ⟨g, t, none⟩ = some (.int .u8 xt) ∧ w'.cell? ⟨g, i, none⟩ = some (.int .u8 xi)) (ds := [17, 19]) #[false, false, false, false, false, false, false, false, false, false, false, false, false, false, false, false, false, false, false, false] (by kernel_rfl) rfl rfl ⟨ct, ci⟩ (fun hHeld => ?_)
        generalize w1.drew = w10 at HS HXX c2 f2 fi ft ci ct hHeld ⊢
        refine with_tabW break_any.tab10 break_any.bits10 (fun HT_ HW_ => ?_)
        refine pure_ (i := 0) (N := some 47) (v := ?_) (a' := ?_) #[true, false, false, false, false, false, false, false, false, false, false, false, false, false, false, false, false, false, false, false] rfl rfl (any_of HT_.out (by kernel_rfl)) (fun _ _ _ h => h) (Or.inl ⟨by rfl, ?_⟩) ?_ ?_
        rotate_left
        · intro w'
          go_simp
          with_reducible rfl
        rotate_left
        · simp only [Act.put, List.setIfInBounds_toArray, List.set_cons_zero, List.set_cons_succ, i64_w, i32_w]
          rfl
        refine pure_ (i := 1) (N := some 48) (v := ?_) (a' := ?_) #[true, true, false, false, false, false, false, false, false, false, false, false, false, false, false, false, false, false, false, false] rfl rfl (any_of HT_.out (by kernel_rfl)) (fun _ _ _ h => h) (Or.inl ⟨by rfl, ?_⟩) ?_ ?_
        rotate_left
        · intro w'
          go_simp
          with_reducible rfl
        rotate_left
        · simp only [Act.put, List.setIfInBounds_toArray, List.set_cons_zero, List.set_cons_succ, i64_w, i32_w]
          rfl
        refine pure_ (i := 2) (N := some 49) (v := ?_) (a' := ?_) #[true, true, true, false, false, false, false, false, false, false, false, false, false, false, false, false, false, false, false, false] rfl rfl (any_of HT_.out (by kernel_rfl)) (fun _ _ _ h => h) (Or.inl ⟨by rfl, ?_⟩) ?_ ?_
        rotate_left
        · intro w'
          go_simp
          with_reducible rfl
        rotate_left
        · simp only [Act.put, List.setIfInBounds_toArray, List.set_cons_zero, List.set_cons_succ, i64_w, i32_w]
          rfl
        refine pure_ (i := 3) (N := some 50) (v := ?_) (a' := ?_) #[true, true, true, true, false, false, false, false, false, false, false, false, false, false, false, false, false, false, false, false] rfl rfl (any_of HT_.out (by kernel_rfl)) (fun _ _ _ h => h) (Or.inl ⟨by rfl, ?_⟩) ?_ ?_
        rotate_left
        · intro w'
          go_simp
          with_reducible rfl
        rotate_left
        · simp only [Act.put, List.setIfInBounds_toArray, List.set_cons_zero, List.set_cons_succ, i64_w, i32_w]
          rfl
        refine pure_ (i := 4) (N := some 51) (v := ?_) (a' := ?_) #[true, true, true, true, true, false, false, false, false, false, false, false, false, false, false, false, false, false, false, false] rfl rfl (any_of HT_.out (by kernel_rfl)) (fun _ _ _ h => h) (Or.inl ⟨by rfl, ?_⟩) ?_ ?_
        rotate_left
        · intro w'
          go_simp
          with_reducible rfl
        rotate_left
        · simp only [Act.put, List.setIfInBounds_toArray, List.set_cons_zero, List.set_cons_succ, i64_w, i32_w]
          rfl
        refine pure_ (i := 5) (N := some 52) (v := ?_) (a' := ?_) #[true, true, true, true, true, true, false, false, false, false, false, false, false, false, false, false, false, false, false, false] rfl rfl (any_of HT_.out (by kernel_rfl)) (fun _ _ _ h => h) (Or.inl ⟨by rfl, ?_⟩) ?_ ?_
        rotate_left
        · intro w'
          go_simp
          with_reducible rfl
        rotate_left
        · simp only [Act.put, List.setIfInBounds_toArray, List.set_cons_zero, List.set_cons_succ, i64_w, i32_w]
          rfl
        refine pure_ (i := 6) (N := some 53) (v := ?_) (a' := ?_) #[true, true, true, true, true, true, true, false, false, false, false, false, false, false, false, false, false, false, false, false] rfl rfl (any_of HT_.out (by kernel_rfl)) (fun _ _ _ h => h) (Or.inl ⟨by rfl, ?_⟩) ?_ ?_
        rotate_left
        · intro w'
          go_simp
          with_reducible rfl
        rotate_left
        · simp only [Act.put, List.setIfInBounds_toArray, List.set_cons_zero, List.set_cons_succ, i64_w, i32_w]
          rfl
        refine pure_ (i := 7) (N := some 54) (v := ?_) (a' := ?_) #[true, true, true, true, true, true, true, true, false, false, false, false, false, false, false, false, false, false, false, false] rfl rfl (any_of HT_.out (by kernel_rfl)) (fun _ _ _ h => h) (Or.inl ⟨by rfl, ?_⟩) ?_ ?_
        rotate_left
        · intro w'
          go_simp
          with_reducible rfl
        rotate_left
        · simp only [Act.put, List.setIfInBounds_toArray, List.set_cons_zero, List.set_cons_succ, i64_w, i32_w]
          rfl
        refine pure_ (i := 8) (N := some 55) (v := ?_) (a' := ?_) #[true, true, true, true, true, true, true, true, true, false, false, false, false, false, false, false, false, false, false, false] rfl rfl (any_of HT_.out (by kernel_rfl)) (fun _ _ _ h => h) (Or.inl ⟨by rfl, ?_⟩) ?_ ?_
        rotate_left
        · intro w'
          go_simp
          with_reducible rfl
        rotate_left
        · simp only [Act.put, List.setIfInBounds_toArray, List.set_cons_zero, List.set_cons_succ, i64_w, i32_w]
          rfl
        refine pure_ (i := 9) (N := some 56) (v := ?_) (a' := ?_) #[true, true, true, true, true, true, true, true, true, true, false, false, false, false, false, false, false, false, false, false] rfl rfl (any_of HT_.out (by kernel_rfl)) (fun _ _ _ h => h) (Or.inl ⟨by rfl, ?_⟩) ?_ ?_
        rotate_left
        · intro w'
          go_simp
          with_reducible rfl
        rotate_left
        · simp only [Act.put, List.setIfInBounds_toArray, List.set_cons_zero, List.set_cons_succ, i64_w, i32_w]
          rfl
        refine pure_ (i := 10) (N := some 57) (v := ?_) (a' := ?_) #[true, true, true, true, true, true, true, true, true, true, true, false, false, false, false, false, false, false, false, false] rfl rfl (any_of HT_.out (by kernel_rfl)) (fun _ _ _ h => h) (Or.inl ⟨by rfl, ?_⟩) ?_ ?_
        rotate_left
        · intro w'
          go_simp
          with_reducible rfl
        rotate_left
        · simp only [Act.put, List.setIfInBounds_toArray, List.set_cons_zero, List.set_cons_succ, i64_w, i32_w]
          rfl
        refine pure_ (i := 12) (N := some 59) (v := ?_) (a' := ?_) #[true, true, true, true, true, true, true, true, true, true, true, false, true, false, false, false, false, false, false, false] rfl rfl (any_of HT_.out (by kernel_rfl)) (fun _ _ _ h => h) (Or.inl ⟨by rfl, ?_⟩) ?_ ?_
        rotate_left
        · intro w'
          go_simp
          with_reducible rfl
        rotate_left
        · simp only [Act.put, List.setIfInBounds_toArray, List.set_cons_zero, List.set_cons_succ, i64_w, i32_w]
          rfl
        refine pure_ (i := 13) (N := some 60) (v := ?_) (a' := ?_) #[true, true, true, true, true, true, true, true, true, true, true, false, true, true, false, false, false, false, false, false] rfl rfl (any_of HT_.out (by kernel_rfl)) (fun _ _ _ h => h) (Or.inl ⟨by rfl, ?_⟩) ?_ ?_
        rotate_left
        · intro w'
          go_simp
          with_reducible rfl
        rotate_left
        · simp only [Act.put, List.setIfInBounds_toArray, List.set_cons_zero, List.set_cons_succ, i64_w, i32_w]
          rfl
        refine pure_ (i := 14) (N := some 61) (v := ?_) (a' := ?_) #[true, true, true, true, true, true, true, true, true, true, true, false, true, true, true, false, false, false, false, false] rfl rfl (any_of HT_.out (by kernel_rfl)) (fun _ _ _ h => h) (Or.inl ⟨by rfl, ?_⟩) ?_ ?_
        rotate_left
        · intro w'
          go_simp
          with_reducible rfl
        rotate_left
        · simp only [Act.put, List.setIfInBounds_toArray, List.set_cons_zero, List.set_cons_succ, i64_w, i32_w]
          rfl
        refine take_ (i := 11) (N := some 58) (v := ?_) (a' := ?_) #[true, true, true, true, true, true, true, true, true, true, true, true, true, true, true, false, false, false, false, false] rfl rfl (take_ofW HT_.out HW_.out (by kernel_rfl)) (fun _ _ _ h => h) (Or.inl ⟨by rfl, ?_⟩) hHeld ?_ ?_
        rotate_left
        · rintro w' ⟨s0, s1⟩
          go_simp
          with_reducible rfl
        rotate_left
        · simp only [Act.put, List.setIfInBounds_toArray, List.set_cons_zero, List.set_cons_succ, i64_w, i32_w]
          rfl
        refine take_ (i := 15) (N := some 62) (v := ?_) (a' := ?_) #[true, true, true, true, true, true, true, true, true, true, true, true, true, true, true, true, false, false, false, false] rfl rfl (take_ofW HT_.out HW_.out (by kernel_rfl)) (fun _ _ _ h => h) (Or.inl ⟨by rfl, ?_⟩) hHeld ?_ ?_
        rotate_left
        · rintro w' ⟨s0, s1⟩
          go_simp
          with_reducible rfl
        rotate_left
        · simp only [Act.put, List.setIfInBounds_toArray, List.set_cons_zero, List.set_cons_succ, i64_w, i32_w]
          rfl
        refine pure_ (i := 16) (N := some 63) (v := ?_) (a' := ?_) #[true, true, true, true, true, true, true, true, true, true, true, true, true, true, true, true, true, false, false, false] rfl rfl (any_of HT_.out (by kernel_rfl)) (fun _ _ _ h => h) (Or.inl ⟨by rfl, ?_⟩) ?_ ?_
        rotate_left
        · intro w'
          go_simp
          with_reducible rfl
        rotate_left
        · simp only [Act.put, List.setIfInBounds_toArray, List.set_cons_zero, List.set_cons_succ, i64_w, i32_w]
          rfl
        refine last_ (i := 17) (N := none) #[true, true, true, true, true, true, true, true, true, true, true, true, true, true, true, true, true, true, false, false] rfl rfl (one_of HT_.out (by kernel_rfl)) (by decide) (fun K hK => ?_)
        refine skip_ (w1 := ?_) (by rfl) rfl ?_ ?_
        rotate_left
        · go_simp
          rfl
        refine hK.out _ _ ?_
        clear hK K
        refine pure_ (i := 18) (N := some 64) (v := ?_) (a' := ?_) #[true, true, true, true, true, true, true, true, true, true, true, true, true, true, true, true, true, true, true, false] rfl rfl (any_of HT_.out (by kernel_rfl)) (fun _ _ _ h => h) (Or.inl ⟨by rfl, ?_⟩) ?_ ?_
        rotate_left
        · intro w'
          go_simp
          with_reducible rfl
        rotate_left
        · simp only [Act.put, List.setIfInBounds_toArray, List.set_cons_zero, List.set_cons_succ, i64_w, i32_w]
          rfl
        refine last_ (i := 19) (N := none) #[true, true, true, true, true, true, true, true, true, true, true, true, true, true, true, true, true, true, true, true] rfl rfl (one_of HT_.out (by kernel_rfl)) (by decide) (fun K hK => ?_)
        refine skip_ (w1 := ?_) (by rfl) rfl ?_ ?_
        rotate_left
        · go_simp
          rfl
        refine hK.out _ _ ?_
        clear hK K
        refine done_ (done_of HT_.out (by kernel_rfl)) ?_
        
        generalize (w10.setCell ⟨g, i, none⟩ (.int .u8 xt)).setCell ⟨g, t, none⟩ (.int .u8 xi) = w2 at HS HXX ⊢
        try go_wp2
        go_roundg (hi - i)
        case measure => have := HGI.out; have := HI2.out; omega
        case rel => exact ⟨i + 1, _, rfl, ⟨by first | exact HE1.out | rfl⟩, ⟨by have := HLOI.out; omega⟩, ⟨by have := HGI.out; have := HI2.out; omega⟩, ⟨_, HXX.out⟩, HS⟩
    · have hi3 : ((i : Int) ≤ (hi : Int)) = False := eq_false (fun h => hi2 (Int.ofNat_le.1 h))
      go_wp2
      first | go_end0 | ((try simp only [Exit.inBlock, Exit.then]); refine bodyPost_ret (results_none rfl _ _ _) rfl ?_)
      exact ⟨rfl, hm.out⟩

end Go.Proofs.Ytpdcjkiejglaiaa.Q

/-
  The partial insertion sort of fewer than fifty bytes: it only reads.
-/
namespace Go.Proofs.Ytpdcjkiejglaiaa.Q
open Go.RowKit Go.Proofs.YtpdcjkiejglaiaaW.PrintWords Go.Proofs.YtpdcjkiejglaiaaW.PrintLast Go.Proofs.YtpdcjkiejglaiaaW.PrintMore
set_option linter.unusedVariables false
set_option linter.unusedSimpArgs false

theorem nat_one (i : Nat) (h : i ≤ 2000) : wrap64 ((i : Int) + 1) = ((i + 1 : Nat) : Int) := wrapU (by omega) (by omega) (by omega)
theorem nat_pred (i m : Nat) (h : i = m + 1) (h2 : i ≤ 2000) : wrap64 ((i : Int) - 1) = (m : Int) := wrapU (by omega) (by omega) (by omega)
theorem nat_sub (a b L : Nat) (h : a + L = b) (h2 : b ≤ 2000) : wrap64 ((b : Int) - (a : Int)) = (L : Int) := wrapU (by omega) (by omega) (by omega)

set_option maxHeartbeats 8000000 in
set_option maxRecDepth 100000 in
theorem pins_any (g cap N a b : Nat) (d : Array Int) (w : World) (hH : Sort.Holds enc8 w g 0 d) (hd : d.size = N) (hN : N ≤ 1000) (hab : a < b) (hb : b ≤ N) (hl : b - a ≤ 49) :
    Calls Try.prog 85 #[.slice (some ⟨g, 0, none⟩) N cap, .int .i64 a, .int .i64 b] w fun e w' => ∃ (r : Bool) (n : Nat), e = .returned (.bool r) ∧ w' = w.drewN n := by
  obtain ⟨L, hL⟩ : ∃ L, a + L = b := ⟨b - a, by omega⟩
  have eL := nat_sub a b L hL (by omega)
  have c50 : (L : Int) < 50 := by omega
  have eA := nat_one a (by omega)
  have HL := Aside0.mk hL
  have HH := Aside0.mk hH
  have HD := Aside0.mk hd
  have HN := Aside0.mk hN
  have HB := Aside0.mk hb
  have HAB := Aside0.mk hab
  have EA := Aside0.mk eA
  have EL := Aside0.mk eL
  clear hH hd hN hb hab hl hL eA eL
  go_enter Try.func85, Try.ntmps85
  go_wp2
  go_loopg [7, 8] 0 (fun gk v7 v8 wr => ∃ z : Int, v7 = .int .i64 z ∧ v8 = .int .i64 0 ∧ Aside0 (z = ((a + 1 : Nat) : Int)) ∧ Aside0 (∃ q, wr = w.drewN q))
  case atStart => exact ⟨_, rfl, rfl, ⟨by first | exact EA.out | rfl⟩, ⟨0, rfl⟩⟩
  case round =>
    obtain ⟨z, rfl, rfl, hz, hw⟩ := hrel
    obtain rfl : z = ((a + 1 : Nat) : Int) := hz.out
    clear hz
    obtain ⟨q, rfl⟩ := hw.out
    clear hw
    obtain ⟨a1, ha1⟩ : ∃ a1, a1 = a + 1 := ⟨_, rfl⟩
    have HA1 := Aside0.mk ha1
    rw [← ha1]
    clear ha1
    go_wp2
    go_loopg [7] (b - a1) (fun gk v wv => ∃ (i : Nat) (z : Int), v = .int .i64 z ∧ Aside0 (z = (i : Int)) ∧ Aside0 (a1 ≤ i) ∧ Aside0 (gk + i = b) ∧ Aside0 (∃ q, wv = w.drewN q))
    case atStart => exact ⟨a1, _, rfl, ⟨rfl⟩, ⟨Nat.le_refl _⟩, ⟨by have := HAB.out; have := HA1.out; omega⟩, ⟨by with_reducible first | exact ⟨_, rfl⟩ | exact ⟨_, World.drewN_drewN _ _ _⟩⟩⟩
    case round =>
      obtain ⟨i, z, rfl, hz, hge, hg, hw⟩ := hrel
      obtain rfl : z = (i : Int) := hz.out
      clear hz
      obtain ⟨q, rfl⟩ := hw.out
      clear hw
      obtain ⟨m, hm⟩ : ∃ m, i = m + 1 := ⟨i - 1, by have := hge.out; have := HA1.out; omega⟩
      by_cases hib : i < b
      · have iN : i < N := Nat.lt_of_lt_of_le hib HB.out
        have mN : m < N := by omega
        have em := nat_pred i m hm (by have := HN.out; omega)
        have ei := nat_one i (by have := HN.out; omega)
        have ci := holds_at HH.out HD.out i iN
        have cm := holds_at HH.out HD.out m mN
        generalize d[i]! = xi at ci
        generalize d[m]! = xm at cm
        have li : (i : Int) < (N : Int) := Int.ofNat_lt.2 iN
        have lm : (m : Int) < (N : Int) := Int.ofNat_lt.2 mN
        have lb : (i : Int) < (b : Int) := Int.ofNat_lt.2 hib
        have hneq : ((i : Int) == (b : Int)) = false := beq_eq_false_iff_ne.mpr (by omega)
        have hneq2 : decide ((i : Int) = (b : Int)) = false := decide_eq_false (by omega)
        have HIB := Aside0.mk hib
        have HM := Aside0.mk hm
        clear hm iN mN
        by_cases hc : xi < xm
        · have hbd : decide (xi < xm) = true := decide_eq_true hc
          go_wp2
          go_quiet ((go_at_call 86; refine (less_any xi xm _).mono ?_; rw [hbd]; rintro e w' ⟨rfl, ⟨nd, rfl⟩⟩; with_reducible first | exact ⟨rfl, _, (World.drewN_drewN _ _ _).trans (congrArg w.drewN (Nat.add_assoc _ _ _))⟩ | exact ⟨rfl, _, World.drewN_drewN _ _ _⟩ | exact ⟨rfl, _, rfl⟩))
          have eL2 := EL.out
          go_wp2
          go_ret
          exact ⟨false, _, rfl, by with_reducible first | rfl | exact World.drewN_drewN _ _ _⟩
        · have hbd : decide (xi < xm) = false := decide_eq_false hc
          go_wp2
          go_quiet ((go_at_call 86; refine (less_any xi xm _).mono ?_; rw [hbd]; rintro e w' ⟨rfl, ⟨nd, rfl⟩⟩; with_reducible first | exact ⟨rfl, _, (World.drewN_drewN _ _ _).trans (congrArg w.drewN (Nat.add_assoc _ _ _))⟩ | exact ⟨rfl, _, World.drewN_drewN _ _ _⟩ | exact ⟨rfl, _, rfl⟩))
          go_wp2
          go_roundg (b - (i + 1))
          case measure => have := hg.out; have := HIB.out; omega
          case rel => exact ⟨i + 1, _, rfl, ⟨by first | exact ei | rfl⟩, ⟨by have := hge.out; omega⟩, ⟨by have := HIB.out; omega⟩, ⟨by with_reducible first | exact ⟨_, rfl⟩ | exact ⟨_, World.drewN_drewN _ _ _⟩⟩⟩
      · obtain rfl : i = b := by have := hg.out; omega
        clear hm
        go_wp2
        go_quiet (fail)
        go_wp2
        go_ret
        exact ⟨true, _, rfl, by with_reducible first | rfl | exact World.drewN_drewN _ _ _⟩

end Go.Proofs.Ytpdcjkiejglaiaa.Q

/-
  The insertion sort on bytes, in place.
-/
namespace Go.Proofs.Ytpdcjkiejglaiaa.Q
open Go.RowKit Go.Proofs.YtpdcjkiejglaiaaW.PrintWords Go.Proofs.YtpdcjkiejglaiaaW.PrintLast Go.Proofs.YtpdcjkiejglaiaaW.PrintMore
set_option linter.unusedVariables false
set_option linter.unusedSimpArgs false

abbrev lt8 : Int → Int → Bool := fun x y => decide (x < y)
theorem insInner_stop {a j : Nat} {d : Array Int} (h : ¬ a < j) : Sort.insInner lt8 a j d = d := by
  cases j with
  | zero => rfl
  | succ j => simp [Sort.insInner, show ¬ a < j + 1 from h]
theorem insInner_go {a m : Nat} {d : Array Int} (h : a < m + 1) (hl : d[m + 1]! < d[m]!) : Sort.insInner lt8 a (m + 1) d = Sort.insInner lt8 a m (Sort.swp d (m + 1) m) := by
  simp [Sort.insInner, h, hl]
theorem insInner_no {a m : Nat} {d : Array Int} (hl : ¬ d[m + 1]! < d[m]!) : Sort.insInner lt8 a (m + 1) d = d := by
  simp [Sort.insInner, hl]
theorem insOuter_go {a b i : Nat} {d : Array Int} (h : i < b) : Sort.insOuter lt8 a b i d = Sort.insOuter lt8 a b (i + 1) (Sort.insInner lt8 a i d) := by
  rw [Sort.insOuter, if_pos h]
theorem insOuter_stop {a b i : Nat} {d : Array Int} (h : ¬ i < b) : Sort.insOuter lt8 a b i d = d := by
  rw [Sort.insOuter, if_neg h]

set_option maxHeartbeats 8000000 in
set_option maxRecDepth 100000 in
theorem ins_any (g cap N a b : Nat) (d : Array Int) (w : World) (hH : Sort.Holds enc8 w g 0 d) (hd : d.size = N) (hN : N ≤ 1000) (ha : a ≤ N) (hb : b ≤ N) :
    Calls Try.prog 80 #[.slice (some ⟨g, 0, none⟩) N cap, .int .i64 a, .int .i64 b] w fun e w' => e = .returned (.tuple #[]) ∧ ∃ n, (Sort.insertionSort lt8 d a b).size = N ∧ w' = Sort.putRow enc8 (Sort.ahead w n) g 0 (Sort.insertionSort lt8 d a b) := by
  have eA := nat_one a (by omega)
  have HH := Aside0.mk hH
  have HD := Aside0.mk hd
  have HN := Aside0.mk hN
  have HA := Aside0.mk ha
  have HB := Aside0.mk hb
  have EA := Aside0.mk eA
  have HS : Aside (w = Sort.putRow enc8 (Sort.ahead w 0) g 0 d) := put_self hH
  clear hH hd hN ha hb eA
  go_enter Try.func80, Try.ntmps80
  go_wp2
  go_loopg [6] (b - (a + 1)) (fun gk v wr => ∃ (i : Nat) (z : Int) (n : Nat) (dk : Array Int), v = .int .i64 z ∧ Aside0 (z = (i : Int)) ∧ Aside0 (a + 1 ≤ i) ∧ Aside0 (b - i ≤ gk) ∧ Aside0 (Sort.insOuter lt8 a b i dk = Sort.insertionSort lt8 d a b) ∧ Aside0 (dk.size = N) ∧ Aside (wr = Sort.putRow enc8 (Sort.ahead w n) g 0 dk))
  case atStart => exact ⟨a + 1, _, _, d, rfl, ⟨by first | exact EA.out | rfl⟩, ⟨Nat.le_refl _⟩, ⟨Nat.le_refl _⟩, ⟨rfl⟩, HD, HS⟩
  case round =>
    obtain ⟨i, z, n, dk, rfl, hz, hai, hgk, hto, hk, hwr⟩ := hrel
    obtain rfl : z = (i : Int) := hz.out
    clear hz
    by_cases hib : i < b
    · have lb : (i : Int) < (b : Int) := Int.ofNat_lt.2 hib
      have hin : i ≤ 1000 := by have := HB.out; have := HN.out; omega
      have ei := nat_one i (by omega)
      have EI := Aside0.mk ei
      have HIB := Aside0.mk hib
      have HIN := Aside0.mk hin
      have hto2 := hto.out
      rw [insOuter_go hib] at hto2
      obtain ⟨R, hR⟩ : ∃ R, Sort.insInner lt8 a i dk = R := ⟨_, rfl⟩
      rw [hR] at hto2
      have HT := Aside0.mk hto2
      have HR := Aside0.mk hR
      clear hto2 hR ei hib hin
      go_wp2
      clear lb
      go_loopg [7] i (fun gj v wv => ∃ (j : Nat) (z : Int) (n : Nat) (dk : Array Int), v = .int .i64 z ∧ Aside0 (z = (j : Int)) ∧ Aside0 (j ≤ i) ∧ Aside0 (gj = j) ∧ Aside0 (Sort.insInner lt8 a j dk = R) ∧ Aside0 (dk.size = N) ∧ Aside (wv = Sort.putRow enc8 (Sort.ahead w n) g 0 dk))
      case atStart => exact ⟨i, _, _, dk, rfl, ⟨rfl⟩, ⟨Nat.le_refl _⟩, ⟨rfl⟩, HR, hk, hwr⟩
      case round =>
        obtain ⟨j, z, n2, dj, rfl, hz, hji, hgj, hin, hkj, hwj⟩ := hrel
        obtain rfl : z = (j : Int) := hz.out
        clear hz
        by_cases haj : a < j
        · obtain ⟨m, hm⟩ : ∃ m, j = m + 1 := ⟨j - 1, by omega⟩
          have jN : j < N := by have := hji.out; have := HIB.out; have := HB.out; omega
          have mN : m < N := by omega
          have em := nat_pred j m hm (by have := HN.out; omega)
          have pj := put_cell HH.out HD.out hkj.out hwj.out j jN
          have pm := put_cell HH.out HD.out hkj.out hwj.out m mN
          have cj := pj.1
          have cm := pm.1
          have fj := pj.2
          have fm := pm.2
          obtain ⟨xj, hxj⟩ : ∃ x, dj[j]! = x := ⟨_, rfl⟩
          obtain ⟨xm, hxm⟩ : ∃ x, dj[m]! = x := ⟨_, rfl⟩
          rw [hxj] at cj
          rw [hxm] at cm
          have lj : (j : Int) < (N : Int) := Int.ofNat_lt.2 jN
          have lm : (m : Int) < (N : Int) := Int.ofNat_lt.2 mN
          have laj : (a : Int) < (j : Int) := Int.ofNat_lt.2 haj
          have hne : ¬ j = m := by omega
          have hne2 : ¬ m = j := by omega
          have HM := Aside0.mk hm
          have HAJ := Aside0.mk haj
          have HJN := Aside0.mk jN
          have HMN := Aside0.mk mN
          have EM := Aside0.mk em
          clear pj pm hm jN mN haj
          by_cases hc : xj < xm
          · have hbd : decide (xj < xm) = true := decide_eq_true hc
            have hstep : Sort.insInner lt8 a m (Sort.swp dj j m) = R := by
              rw [← hin.out]
              have h1 := HM.out
              have h2 := HAJ.out
              subst h1
              exact (insInner_go h2 (by rw [hxj, hxm]; exact hc)).symm
            have HST := Aside0.mk hstep
            clear hstep
            go_wp2
            go_quiet ((go_at_call 86; refine (less_any xj xm _).mono ?_; rw [hbd]; rintro e w' ⟨rfl, ⟨nd, rfl⟩⟩; with_reducible first | exact ⟨rfl, _, World.drewN_drewN _ _ _⟩ | exact ⟨rfl, _, rfl⟩))
            go_wp2
            generalize hv : World.drewN _ _ = v
            have hvr : Aside (v = Sort.putRow enc8 (Sort.ahead w _) g 0 dj) := hv.symm.trans (put_drewN hwj.out _)
            have sj := (put_cell HH.out HD.out hkj.out hvr.out j HJN.out).1
            have sm := (put_cell HH.out HD.out hkj.out hvr.out m HMN.out).1
            have tj := (put_cell HH.out HD.out hkj.out hvr.out j HJN.out).2
            have tm := (put_cell HH.out HD.out hkj.out hvr.out m HMN.out).2
            rw [hxj] at sj
            rw [hxm] at sm
            clear hv
            go_region
            have hz2 := put_swap hvr.out j m (by rw [hkj.out]; exact HJN.out) (by rw [hkj.out]; exact HMN.out) xj xm hxj hxm
            rw [hz2]
            clear hz2
            have hk2 : Aside0 ((Sort.swp dj j m).size = N) := Aside0.mk (by rw [Sort.size_swp]; exact hkj.out)
            generalize Sort.swp dj j m = d2 at hk2 HST ⊢
            generalize hw2 : Sort.putRow enc8 (Sort.ahead w _) g 0 d2 = w2
            have hwr2 : Aside (w2 = Sort.putRow enc8 (Sort.ahead w _) g 0 d2) := hw2.symm
            clear hw2
            go_wp2
            go_roundg m
            case measure => have := hgj.out; have := HM.out; omega
            case rel => exact ⟨m, _, _, d2, rfl, ⟨by first | exact EM.out | rfl⟩, ⟨by have := hji.out; have := HM.out; omega⟩, ⟨rfl⟩, HST, hk2, hwr2⟩
          · have hbd : decide (xj < xm) = false := decide_eq_false hc
            have hR2 : dj = R := by
              rw [← hin.out]
              have h1 := HM.out
              subst h1
              exact (insInner_no (by rw [hxj, hxm]; exact hc)).symm
            have HR2 := Aside0.mk hR2
            clear hR2
            go_wp2
            go_quiet ((go_at_call 86; refine (less_any xj xm _).mono ?_; rw [hbd]; rintro e w' ⟨rfl, ⟨nd, rfl⟩⟩; with_reducible first | exact ⟨rfl, _, World.drewN_drewN _ _ _⟩ | exact ⟨rfl, _, rfl⟩))
            go_wp2
            go_roundg (b - (i + 1))
            case measure => have := hgk.out; have := HIB.out; omega
            case rel => exact ⟨i + 1, _, _, dj, rfl, ⟨by first | exact EI.out | rfl⟩, ⟨by have := hai.out; omega⟩, ⟨Nat.le_refl _⟩, ⟨by rw [HR2.out]; exact HT.out⟩, hkj, put_drewN hwj.out _⟩
        · have laj : ((a : Int) < (j : Int)) = False := eq_false (fun h => haj (Int.ofNat_lt.1 h))
          have hR2 : dj = R := by rw [← hin.out]; exact (insInner_stop haj).symm
          have HR2 := Aside0.mk hR2
          clear hR2 haj
          go_wp2
          go_quiet (fail)
          go_wp2
          go_roundg (b - (i + 1))
          case measure => have := hgk.out; have := HIB.out; omega
          case rel => exact ⟨i + 1, _, _, dj, rfl, ⟨by first | exact EI.out | rfl⟩, ⟨by have := hai.out; omega⟩, ⟨Nat.le_refl _⟩, ⟨by rw [HR2.out]; exact HT.out⟩, hkj, put_drewN hwj.out _⟩
    · have lb : ¬ (i : Int) < (b : Int) := fun h => hib (Int.ofNat_lt.1 h)
      have hfin := hto.out
      rw [insOuter_stop hib] at hfin
      clear hib
      go_wp2
      first | go_end0 | ((try simp only [Exit.inBlock, Exit.then]); refine bodyPost_ret (results_none rfl _ _ _) rfl ?_)
      have hsz : (Sort.insertionSort lt8 d a b).size = N := by rw [← hfin]; exact hk.out
      have hwx : wr = Sort.putRow enc8 (Sort.ahead w n) g 0 (Sort.insertionSort lt8 d a b) := by rw [← hfin]; exact hwr
      first | exact ⟨rfl, n, hsz, hwx⟩ | exact ⟨rfl, hsz, n, hwx⟩ | exact ⟨hsz, n, hwx⟩

end Go.Proofs.Ytpdcjkiejglaiaa.Q

/-
  pdqsort on at most 17 bytes: it returns; on at most 12 it is the insertion sort.
-/
namespace Go.Proofs.Ytpdcjkiejglaiaa.Q
open Go.RowKit Go.Proofs.YtpdcjkiejglaiaaW.PrintWords Go.Proofs.YtpdcjkiejglaiaaW.PrintLast Go.Proofs.YtpdcjkiejglaiaaW.PrintMore
set_option linter.unusedVariables false
set_option linter.unusedSimpArgs false

set_option maxHeartbeats 8000000 in
set_option maxRecDepth 100000 in
theorem pdq_small_any (g cap N a b : Nat) (lim : Int) (d : Array Int) (w : World) (hH : Sort.Holds enc8 w g 0 d) (hd : d.size = N) (hN : N ≤ 1000) (hab : a ≤ b) (hb : b ≤ N) (hl : b - a ≤ 12) :
    Calls Try.prog 70 #[.slice (some ⟨g, 0, none⟩) N cap, .int .i64 a, .int .i64 b, .int .i64 lim] w fun e w' => e = .returned (.tuple #[]) ∧ ∃ n, (Sort.insertionSort lt8 d a b).size = N ∧ w' = Sort.putRow enc8 (Sort.ahead w n) g 0 (Sort.insertionSort lt8 d a b) := by
  obtain ⟨L, hL⟩ : ∃ L, a + L = b := ⟨b - a, by omega⟩
  have eL := nat_sub a b L hL (by omega)
  have c12 : ((L : Int) ≤ 12) = True := eq_true (by omega)
  have I := ins_any g cap N a b d w hH hd hN (by omega) hb
  have HI := Aside0.mk I
  clear I hH hd hN hab hb hl hL
  go_enter Try.func70, Try.ntmps70
  go_wp2
  go_loopg [1, 2] 0 (fun gk v1 v2 wr => v1 = .int .i64 (a : Int) ∧ v2 = .int .i64 (b : Int) ∧ Aside0 (wr = w))
  case atStart => exact ⟨rfl, rfl, ⟨rfl⟩⟩
  case round =>
    obtain ⟨rfl, rfl, hw⟩ := hrel
    obtain rfl := hw.out
    clear hw
    go_wp2_with (go_at_call 80; refine HI.out.mono ?_; rintro e w1 ⟨rfl, n, hsz, rfl⟩)
    first | go_end0 | ((try simp only [Exit.inBlock, Exit.then]); refine bodyPost_ret (results_none rfl _ _ _) rfl ?_)
    first | exact ⟨rfl, n, hsz, rfl⟩ | exact ⟨rfl, hsz, n, rfl⟩

end Go.Proofs.Ytpdcjkiejglaiaa.Q

/-
  pdqsort on 13 to 17 bytes: it returns, and of what was there the row alone may have turned.
-/
namespace Go.Proofs.Ytpdcjkiejglaiaa.Q
open Go.RowKit Go.Proofs.YtpdcjkiejglaiaaW.PrintWords Go.Proofs.YtpdcjkiejglaiaaW.PrintLast Go.Proofs.YtpdcjkiejglaiaaW.PrintMore
set_option linter.unusedVariables false
set_option linter.unusedSimpArgs false

section
variable {g cap N : Nat} {w : World} (hg : g < w.heap.size) (hN : N ≤ 1000)
theorem c_break (hg : g < w.heap.size) (hN : N ≤ 1000) (W : World) (A B : Nat) (h : Mess g N w W) (hb : B ≤ N) (hl : 13 ≤ B - A) (hl2 : B - A ≤ 17) :
    Calls Try.prog 82 #[.slice (some ⟨g, 0, none⟩) N cap, .int .i64 A, .int .i64 B] W fun e w' => e = .returned (.tuple #[]) ∧ Mess g N w w' := by
  obtain ⟨d, hd, hH⟩ := h.row
  refine (break_any g cap N A B d W hH hd (Nat.lt_of_lt_of_le hg h.size) hb hl hl2 hN).mono ?_
  rintro e w' ⟨rfl, hm⟩
  exact ⟨rfl, h.trans hm⟩
theorem c_pivot (hg : g < w.heap.size) (hN : N ≤ 1000) (W : World) (A B : Nat) (h : Mess g N w W) (hb : B ≤ N) (hl : 13 ≤ B - A) (hl2 : B - A ≤ 49) :
    Calls Try.prog 83 #[.slice (some ⟨g, 0, none⟩) N cap, .int .i64 A, .int .i64 B] W fun e w' => ∃ (u : Nat) (t : Int), e = .returned (.tuple #[.int .i64 u, .int .i64 t]) ∧ A < u ∧ u < B ∧ (t = 0 ∨ t = 1) ∧ Mess g N w w' := by
  obtain ⟨d, hd, hH⟩ := h.row
  refine (pivot_any g cap N A B d W hH hd (Nat.lt_of_lt_of_le hg h.size) hb hl hl2 hN).mono ?_
  rintro e w' ⟨u, t, rfl, h1, h2, h3, hB⟩
  exact ⟨u, t, rfl, h1, h2, h3, h.then_below hB (Nat.lt_of_lt_of_le hg h.size) h.size⟩
theorem c_pins (hN : N ≤ 1000) (W : World) (A B : Nat) (h : Mess g N w W) (hab : A < B) (hb : B ≤ N) (hl : B - A ≤ 49) :
    Calls Try.prog 85 #[.slice (some ⟨g, 0, none⟩) N cap, .int .i64 A, .int .i64 B] W fun e w' => ∃ (r : Bool) (n : Nat), e = .returned (.bool r) ∧ w' = W.drewN n := by
  obtain ⟨d, hd, hH⟩ := h.row
  exact pins_any g cap N A B d W hH hd hN hab hb hl
theorem Mess.drewN {W : World} (h : Mess g N w W) (hg : g < w.heap.size) (n : Nat) : Mess g N w (W.drewN n) := h.then_below (pw_below_drewN (Below.refl W.heap.size W) n) (Nat.lt_of_lt_of_le hg h.size) h.size
theorem c_eq (hN : N ≤ 1000) (W : World) (A B u : Nat) (h : Mess g N w W) (hb : B ≤ N) (h1 : A < u) (h2 : u < B) :
    Calls Try.prog 87 #[.slice (some ⟨g, 0, none⟩) N cap, .int .i64 A, .int .i64 B, .int .i64 u] W fun e w' => ∃ j : Nat, e = .returned (.int .i64 j) ∧ A < j ∧ j ≤ B ∧ Mess g N w w' := by
  obtain ⟨d, hd, hH⟩ := h.row
  refine (partEq_any g cap N A B u d W hH hd hN h1 h2 hb).mono ?_
  rintro e w' ⟨j, n, dk, rfl, hj1, hj2, hk, rfl⟩
  exact ⟨j, rfl, hj1, hj2, h.put hH hd hk⟩
theorem c_part (hN : N ≤ 1000) (W : World) (A B u : Nat) (h : Mess g N w W) (hb : B ≤ N) (h1 : A < u) (h2 : u < B) :
    Calls Try.prog 88 #[.slice (some ⟨g, 0, none⟩) N cap, .int .i64 A, .int .i64 B, .int .i64 u] W fun e w' => ∃ (j : Nat) (r : Bool), e = .returned (.tuple #[.int .i64 j, .bool r]) ∧ A ≤ j ∧ j < B ∧ Mess g N w w' := by
  obtain ⟨d, hd, hH⟩ := h.row
  refine (partition_any g cap N A B u d W hH hd hN h1 h2 hb).mono ?_
  rintro e w' ⟨j, r, n, dk, rfl, hj1, hj2, hk, rfl⟩
  exact ⟨j, r, rfl, hj1, hj2, h.put hH hd hk⟩
theorem ins_size (d : Array Int) (a b : Nat) (hd : d.size = N) (h : (Sort.insertionSort lt8 d a b).size = N) : (Sort.insertionSort lt8 d a b).size = N := h
theorem c_small (hN : N ≤ 1000) (W : World) (A B : Nat) (lim : Int) (h : Mess g N w W) (hab : A ≤ B) (hb : B ≤ N) (hl : B - A ≤ 12) :
    Calls Try.prog 70 #[.slice (some ⟨g, 0, none⟩) N cap, .int .i64 A, .int .i64 B, .int .i64 lim] W fun e w' => e = .returned (.tuple #[]) ∧ Mess g N w w' := by
  obtain ⟨d, hd, hH⟩ := h.row
  refine (pdq_small_any g cap N A B lim d W hH hd hN hab hb hl).mono ?_
  rintro e w' ⟨rfl, n, hs, rfl⟩
  exact ⟨rfl, h.put hH hd hs⟩
theorem c_ins (hN : N ≤ 1000) (W : World) (A B : Nat) (h : Mess g N w W) (hab : A ≤ B) (hb : B ≤ N) :
    Calls Try.prog 80 #[.slice (some ⟨g, 0, none⟩) N cap, .int .i64 A, .int .i64 B] W fun e w' => e = .returned (.tuple #[]) ∧ Mess g N w w' := by
  obtain ⟨d, hd, hH⟩ := h.row
  refine (ins_any g cap N A B d W hH hd hN (Nat.le_trans hab hb) hb).mono ?_
  rintro e w' ⟨rfl, n, hs, rfl⟩
  exact ⟨rfl, h.put hH hd hs⟩
end

end Go.Proofs.Ytpdcjkiejglaiaa.Q

/-
  pdqsort on at most 17 bytes: it returns, and of what was there the row alone may have turned.
-/
namespace Go.Proofs.Ytpdcjkiejglaiaa.Q
open Go.RowKit Go.Proofs.YtpdcjkiejglaiaaW.PrintWords Go.Proofs.YtpdcjkiejglaiaaW.PrintLast Go.Proofs.YtpdcjkiejglaiaaW.PrintMore
set_option linter.unusedVariables false
set_option linter.unusedSimpArgs false

theorem rec_left {A B j l n N : Nat} (h1 : A ≤ j) (h2 : j < B) (hb : B ≤ N) (hn : B - A ≤ n) (h17 : B - A ≤ 17) (hl : B - A ≤ l + 13) (hl1 : l ≤ 100) : A ≤ j ∧ j ≤ N ∧ j - A < n ∧ j - A ≤ 17 ∧ j - A ≤ l + 12 := by omega
theorem rec_right {A B j j1 l n N : Nat} (e : j1 = j + 1) (h1 : A ≤ j) (h2 : j < B) (hb : B ≤ N) (hn : B - A ≤ n) (h17 : B - A ≤ 17) (hl : B - A ≤ l + 13) (hl1 : l ≤ 100) : j1 ≤ B ∧ B ≤ N ∧ B - j1 < n ∧ B - j1 ≤ 17 ∧ B - j1 ≤ l + 12 := by omega
theorem div8 (L : Nat) : Int.tdiv (L : Int) 8 = ((L / 8 : Nat) : Int) := rfl

set_option maxHeartbeats 16000000 in
set_option maxRecDepth 100000 in
theorem pdq_any (g cap N : Nat) (w : World) (hg : g < w.heap.size) (hN : N ≤ 1000) (n : Nat) : ∀ (a b lim : Nat) (W : World), Mess g N w W → a ≤ b → b ≤ N → b - a ≤ n → b - a ≤ 17 → b - a ≤ lim + 12 → lim ≤ 100 →
    Calls Try.prog 70 #[.slice (some ⟨g, 0, none⟩) N cap, .int .i64 a, .int .i64 b, .int .i64 lim] W fun e w' => e = .returned (.tuple #[]) ∧ Mess g N w w' := by
  induction n using Nat.strongRecOn with
  | _ n ih =>
    intro a b lim W hm hab hb hbn h17 hlim hl100
    have REC : ∀ (A B l : Nat) (V : World), Mess g N w V → (A ≤ B ∧ B ≤ N ∧ B - A < n ∧ B - A ≤ 17 ∧ B - A ≤ l + 12) → l ≤ 100 → Calls Try.prog 70 #[.slice (some ⟨g, 0, none⟩) N cap, .int .i64 A, .int .i64 B, .int .i64 l] V fun e w' => e = .returned (.tuple #[]) ∧ Mess g N w w' := fun A B l V hV h hl => ih (B - A) h.2.2.1 A B l V hV h.1 h.2.1 (Nat.le_refl _) h.2.2.2.1 h.2.2.2.2 hl
    have HREC := Aside0.mk REC
    have HG := Aside0.mk hg
    have HN := Aside0.mk hN
    have HBN := Aside0.mk hbn
    have HM := Aside0.mk hm
    have HAB := Aside0.mk hab
    have HB := Aside0.mk hb
    have H17 := Aside0.mk h17
    have HL := Aside0.mk (show b - a ≤ lim + 12 ∧ lim ≤ 100 from ⟨hlim, hl100⟩)
    clear REC ih hg hN hbn hm hab hb h17 hlim hl100
    go_enter Try.func70, Try.ntmps70
    go_wp2
    go_loopg [1, 2, 3, 8, 9] (b - a) (fun gk v1 v2 v3 v8 v9 wr => ∃ (A B l : Nat) (zA zB zl : Int) (p q : Bool), v1 = .int .i64 zA ∧ v2 = .int .i64 zB ∧ v3 = .int .i64 zl ∧ v8 = .bool p ∧ v9 = .bool q ∧ Aside0 (zA = (A : Int)) ∧ Aside0 (zB = (B : Int)) ∧ Aside0 (zl = (l : Int)) ∧ Aside0 (A ≤ B ∧ B ≤ N) ∧ Aside0 (B - A ≤ gk) ∧ Aside0 (B - A ≤ n ∧ B - A ≤ 17) ∧ Aside0 (B - A ≤ l + 12 ∧ l ≤ 100) ∧ Aside0 (Mess g N w wr))
    case atStart => exact ⟨a, b, lim, _, _, _, true, true, rfl, rfl, rfl, rfl, rfl, ⟨rfl⟩, ⟨rfl⟩, ⟨rfl⟩, ⟨⟨HAB.out, HB.out⟩⟩, ⟨Nat.le_refl _⟩, ⟨⟨HBN.out, H17.out⟩⟩, HL, HM⟩
    case round =>
      obtain ⟨A, B, l, zA, zB, zl, p, q, rfl, rfl, rfl, rfl, rfl, hzA, hzB, hzl, hab, hgk, hnn, hl, hm⟩ := hrel
      obtain rfl : zA = (A : Int) := hzA.out
      obtain rfl : zB = (B : Int) := hzB.out
      obtain rfl : zl = (l : Int) := hzl.out
      clear hzA hzB hzl
      obtain ⟨L, hL⟩ : ∃ L, A + L = B := ⟨B - A, by have := hab.out; omega⟩
      have eL := nat_sub A B L hL (by have := hab.out; have := HN.out; omega)
      have HLL := Aside0.mk hL
      clear hL
      by_cases c12 : L ≤ 12
      · have c12' : ((L : Int) ≤ 12) = True := eq_true (by omega)
        clear c12
        go_wp2_with (go_at_call 80; refine (c_ins HN.out _ A B hm.out hab.out.1 hab.out.2).mono ?_; rintro e w1 ⟨rfl, hm1⟩)
        first | go_end0 | ((try simp only [Exit.inBlock, Exit.then]); refine bodyPost_ret (results_none rfl _ _ _) rfl ?_)
        exact ⟨rfl, hm1⟩
      · have c12' : ((L : Int) ≤ 12) = False := eq_false (by omega)
        obtain ⟨l1, hl1⟩ : ∃ l1, l = l1 + 1 := ⟨l - 1, by have := hl.out; have := HLL.out; omega⟩
        have el := nat_pred l l1 hl1 (by have := hl.out; omega)
        have l0 : ((l : Int) == 0) = false := beq_eq_false_iff_ne.mpr (by omega)
        have l0b : decide ((l : Int) = 0) = false := decide_eq_false (by omega)
        have HBA : Aside0 (13 ≤ B - A ∧ B - A ≤ 17 ∧ B - A ≤ 49 ∧ A < B) := Aside0.mk (by have := hnn.out; have := HLL.out; omega)
        have HLC : Aside0 (B - A ≤ l + 13 ∧ B - A ≤ l1 + 13 ∧ l1 ≤ 100) := Aside0.mk (by have := hl.out; omega)
        have HL1 := Aside0.mk hl1
        have EL := Aside0.mk el
        clear c12 hl1
        have d8 := div8 L
        cases p <;> cases q
        · go_wp2_with (first | (go_at_call 82; refine (c_break HG.out HN.out _ A B hm.out hab.out.2 HBA.out.1 HBA.out.2.1).mono ?_; rintro e w1 ⟨rfl, hm1⟩) | (go_at_call 83; refine (c_pivot HG.out HN.out _ A B (by first | exact hm1 | exact hm.out) hab.out.2 HBA.out.1 HBA.out.2.2.1).mono ?_; rintro e w2 ⟨u, t, rfl, hu1, hu2, ht, hm2⟩; have ht2 : (t == 2) = false := (by rcases ht with rfl | rfl <;> rfl); have ht3 : decide (t = 2) = false := (by rcases ht with rfl | rfl <;> rfl); have HU := Aside0.mk hu1; have HU2 := Aside0.mk hu2; clear hu1 hu2 ht) | (go_at_call 85; refine (c_pins HN.out _ A B hm2 HBA.out.2.2.2 hab.out.2 HBA.out.2.2.1).mono ?_; rintro e w3 ⟨r, n3, rfl, rfl⟩))
          all_goals first
            | ((first | go_end0 | ((try simp only [Exit.inBlock, Exit.then]); refine bodyPost_ret (results_none rfl _ _ _) rfl ?_)); exact ⟨rfl, hm2.drewN HG.out _⟩)
            | skip
          all_goals
            obtain ⟨d2, hd2, hH2⟩ := hm2.row
            by_cases hA0 : 0 < A
            · obtain ⟨m, hmA⟩ : ∃ m, A = m + 1 := ⟨A - 1, by omega⟩
              have hAN : A ≤ N := Nat.le_trans hab.out.1 hab.out.2
              have em := nat_pred A m hmA (Nat.le_trans hAN (Nat.le_trans HN.out (by decide)))
              have mN : m < N := by have h1 := hAN; clear eL em el; omega
              have uN : u < N := Nat.lt_of_lt_of_le HU2.out hab.out.2
              have cm := holds_at hH2 hd2 m mN
              have cu := holds_at hH2 hd2 u uN
              generalize d2[m]! = xm at cm
              generalize d2[u]! = xu at cu
              have lm : (m : Int) < (N : Int) := Int.ofNat_lt.2 mN
              have lu : (u : Int) < (N : Int) := Int.ofNat_lt.2 uN
              have hAz : (0 : Int) < (A : Int) := Int.ofNat_lt.2 hA0
              have hA1 : (0 < A) = True := eq_true hA0
              clear hmA hAN mN uN hA0 hd2 hH2
              by_cases hc : xm < xu
              · have hbd : decide (xm < xu) = true := decide_eq_true hc
                go_quiet ((go_at_call 86; refine (less_any xm xu _).mono ?_; rw [hbd]; rintro e w' ⟨rfl, ⟨nd, rfl⟩⟩; with_reducible first | exact ⟨rfl, _, (World.drewN_drewN _ _ _).trans (congrArg w2.drewN (Nat.add_assoc _ _ _))⟩ | exact ⟨rfl, _, World.drewN_drewN _ _ _⟩ | exact ⟨rfl, _, rfl⟩))
                go_wp2_with (first | (go_at_call 88; refine (c_part HN.out _ A B u (hm2.drewN HG.out _) hab.out.2 HU.out HU2.out).mono ?_; rintro e w4 ⟨j, r4, rfl, hj1, hj2, hm4⟩; have HJ := Aside0.mk (show A ≤ j ∧ j < B from ⟨hj1, hj2⟩); have HM4 := Aside0.mk hm4; obtain ⟨j1, hj1e⟩ : ∃ j1, j1 = j + 1 := ⟨_, rfl⟩; have ej : wrap64 ((j : Int) + 1) = (j1 : Int) := (by rw [hj1e]; exact nat_one j (Nat.le_trans (Nat.le_of_lt (Nat.lt_of_lt_of_le hj2 hab.out.2)) (Nat.le_trans HN.out (by decide)))); have HJ1 := Aside0.mk hj1e; clear hj1 hj2 hm4 hj1e) | (go_at_call 70; with_reducible refine (HREC.out A j l1 _ HM4.out (rec_left HJ.out.1 HJ.out.2 hab.out.2 hnn.out.1 hnn.out.2 HLC.out.2.1 HLC.out.2.2) HLC.out.2.2).mono ?_; rintro e w5 ⟨rfl, hm5⟩) | (go_at_call 70; with_reducible refine (HREC.out j1 B l1 _ HM4.out (rec_right HJ1.out HJ.out.1 HJ.out.2 hab.out.2 hnn.out.1 hnn.out.2 HLC.out.2.1 HLC.out.2.2) HLC.out.2.2).mono ?_; rintro e w5 ⟨rfl, hm5⟩))
                all_goals first
                  | (go_roundg (B - j1); (case measure => have := hgk.out; have := HJ.out; have := HJ1.out; omega); (case rel => exact ⟨j1, B, l1, _, _, _, _, _, rfl, rfl, rfl, rfl, rfl, ⟨by first | exact ej | rfl⟩, ⟨rfl⟩, ⟨by first | rfl | exact EL.out⟩, ⟨by have := HJ1.out; have := HJ.out; have := hab.out; omega⟩, ⟨Nat.le_refl _⟩, ⟨by have := HJ1.out; have := HJ.out; have := hnn.out; omega⟩, ⟨by have := HJ1.out; have := HJ.out; have := HLC.out; have := hl.out; omega⟩, ⟨hm5⟩⟩))
                  | (go_roundg (j - A); (case measure => have := hgk.out; have := HJ.out; omega); (case rel => exact ⟨A, j, l1, _, _, _, _, _, rfl, rfl, rfl, rfl, rfl, ⟨rfl⟩, ⟨rfl⟩, ⟨by first | rfl | exact EL.out⟩, ⟨by have := HJ.out; have := hab.out; omega⟩, ⟨Nat.le_refl _⟩, ⟨by have := HJ.out; have := hnn.out; omega⟩, ⟨by have := HJ.out; have := HLC.out; have := hl.out; omega⟩, ⟨hm5⟩⟩))
              · have hbd : decide (xm < xu) = false := decide_eq_false hc
                go_quiet ((go_at_call 86; refine (less_any xm xu _).mono ?_; rw [hbd]; rintro e w' ⟨rfl, ⟨nd, rfl⟩⟩; with_reducible first | exact ⟨rfl, _, (World.drewN_drewN _ _ _).trans (congrArg w2.drewN (Nat.add_assoc _ _ _))⟩ | exact ⟨rfl, _, World.drewN_drewN _ _ _⟩ | exact ⟨rfl, _, rfl⟩))
                go_wp2_with (go_at_call 87; refine (c_eq HN.out _ A B u (hm2.drewN HG.out _) hab.out.2 HU.out HU2.out).mono ?_; rintro e w4 ⟨j, rfl, hj1, hj2, hm4⟩; have HJ := Aside0.mk (show A < j ∧ j ≤ B from ⟨hj1, hj2⟩); have HM4 := Aside0.mk hm4; clear hj1 hj2 hm4)
                go_roundg (B - j)
                case measure => have := hgk.out; have := HJ.out; omega
                case rel => exact ⟨j, B, l1, _, _, _, _, _, rfl, rfl, rfl, rfl, rfl, ⟨rfl⟩, ⟨rfl⟩, ⟨by first | rfl | exact EL.out⟩, ⟨by have := HJ.out; have := hab.out; omega⟩, ⟨Nat.le_refl _⟩, ⟨by have := HJ.out; have := hnn.out; omega⟩, ⟨by have := HJ.out; have := HLC.out; have := hl.out; omega⟩, HM4⟩
            · have hAz : ((0 : Int) < (A : Int)) = False := eq_false (fun h => hA0 (Int.ofNat_lt.1 h))
              have hA1 : (0 < A) = False := eq_false hA0
              clear hA0 hd2 hH2
              go_quiet (fail)
              go_wp2_with (first | (go_at_call 88; refine (c_part HN.out _ A B u (hm2.drewN HG.out _) hab.out.2 HU.out HU2.out).mono ?_; rintro e w4 ⟨j, r4, rfl, hj1, hj2, hm4⟩; have HJ := Aside0.mk (show A ≤ j ∧ j < B from ⟨hj1, hj2⟩); have HM4 := Aside0.mk hm4; obtain ⟨j1, hj1e⟩ : ∃ j1, j1 = j + 1 := ⟨_, rfl⟩; have ej : wrap64 ((j : Int) + 1) = (j1 : Int) := (by rw [hj1e]; exact nat_one j (Nat.le_trans (Nat.le_of_lt (Nat.lt_of_lt_of_le hj2 hab.out.2)) (Nat.le_trans HN.out (by decide)))); have HJ1 := Aside0.mk hj1e; clear hj1 hj2 hm4 hj1e) | (go_at_call 70; with_reducible refine (HREC.out A j l1 _ HM4.out (rec_left HJ.out.1 HJ.out.2 hab.out.2 hnn.out.1 hnn.out.2 HLC.out.2.1 HLC.out.2.2) HLC.out.2.2).mono ?_; rintro e w5 ⟨rfl, hm5⟩) | (go_at_call 70; with_reducible refine (HREC.out j1 B l1 _ HM4.out (rec_right HJ1.out HJ.out.1 HJ.out.2 hab.out.2 hnn.out.1 hnn.out.2 HLC.out.2.1 HLC.out.2.2) HLC.out.2.2).mono ?_; rintro e w5 ⟨rfl, hm5⟩))
              all_goals first
                | (go_roundg (B - j1); (case measure => have := hgk.out; have := HJ.out; have := HJ1.out; omega); (case rel => exact ⟨j1, B, l1, _, _, _, _, _, rfl, rfl, rfl, rfl, rfl, ⟨by first | exact ej | rfl⟩, ⟨rfl⟩, ⟨by first | rfl | exact EL.out⟩, ⟨by have := HJ1.out; have := HJ.out; have := hab.out; omega⟩, ⟨Nat.le_refl _⟩, ⟨by have := HJ1.out; have := HJ.out; have := hnn.out; omega⟩, ⟨by have := HJ1.out; have := HJ.out; have := HLC.out; have := hl.out; omega⟩, ⟨hm5⟩⟩))
                | (go_roundg (j - A); (case measure => have := hgk.out; have := HJ.out; omega); (case rel => exact ⟨A, j, l1, _, _, _, _, _, rfl, rfl, rfl, rfl, rfl, ⟨rfl⟩, ⟨rfl⟩, ⟨by first | rfl | exact EL.out⟩, ⟨by have := HJ.out; have := hab.out; omega⟩, ⟨Nat.le_refl _⟩, ⟨by have := HJ.out; have := hnn.out; omega⟩, ⟨by have := HJ.out; have := HLC.out; have := hl.out; omega⟩, ⟨hm5⟩⟩))
        · go_wp2_with (first | (go_at_call 82; refine (c_break HG.out HN.out _ A B hm.out hab.out.2 HBA.out.1 HBA.out.2.1).mono ?_; rintro e w1 ⟨rfl, hm1⟩) | (go_at_call 83; refine (c_pivot HG.out HN.out _ A B (by first | exact hm1 | exact hm.out) hab.out.2 HBA.out.1 HBA.out.2.2.1).mono ?_; rintro e w2 ⟨u, t, rfl, hu1, hu2, ht, hm2⟩; have ht2 : (t == 2) = false := (by rcases ht with rfl | rfl <;> rfl); have ht3 : decide (t = 2) = false := (by rcases ht with rfl | rfl <;> rfl); have HU := Aside0.mk hu1; have HU2 := Aside0.mk hu2; clear hu1 hu2 ht) | (go_at_call 85; refine (c_pins HN.out _ A B hm2 HBA.out.2.2.2 hab.out.2 HBA.out.2.2.1).mono ?_; rintro e w3 ⟨r, n3, rfl, rfl⟩))
          all_goals first
            | ((first | go_end0 | ((try simp only [Exit.inBlock, Exit.then]); refine bodyPost_ret (results_none rfl _ _ _) rfl ?_)); exact ⟨rfl, hm2.drewN HG.out _⟩)
            | skip
          all_goals
            obtain ⟨d2, hd2, hH2⟩ := hm2.row
            by_cases hA0 : 0 < A
            · obtain ⟨m, hmA⟩ : ∃ m, A = m + 1 := ⟨A - 1, by omega⟩
              have hAN : A ≤ N := Nat.le_trans hab.out.1 hab.out.2
              have em := nat_pred A m hmA (Nat.le_trans hAN (Nat.le_trans HN.out (by decide)))
              have mN : m < N := by have h1 := hAN; clear eL em el; omega
              have uN : u < N := Nat.lt_of_lt_of_le HU2.out hab.out.2
              have cm := holds_at hH2 hd2 m mN
              have cu := holds_at hH2 hd2 u uN
              generalize d2[m]! = xm at cm
              generalize d2[u]! = xu at cu
              have lm : (m : Int) < (N : Int) := Int.ofNat_lt.2 mN
              have lu : (u : Int) < (N : Int) := Int.ofNat_lt.2 uN
              have hAz : (0 : Int) < (A : Int) := Int.ofNat_lt.2 hA0
              have hA1 : (0 < A) = True := eq_true hA0
              clear hmA hAN mN uN hA0 hd2 hH2
              by_cases hc : xm < xu
              · have hbd : decide (xm < xu) = true := decide_eq_true hc
                go_quiet ((go_at_call 86; refine (less_any xm xu _).mono ?_; rw [hbd]; rintro e w' ⟨rfl, ⟨nd, rfl⟩⟩; with_reducible first | exact ⟨rfl, _, (World.drewN_drewN _ _ _).trans (congrArg w2.drewN (Nat.add_assoc _ _ _))⟩ | exact ⟨rfl, _, World.drewN_drewN _ _ _⟩ | exact ⟨rfl, _, rfl⟩))
                go_wp2_with (first | (go_at_call 88; refine (c_part HN.out _ A B u (hm2.drewN HG.out _) hab.out.2 HU.out HU2.out).mono ?_; rintro e w4 ⟨j, r4, rfl, hj1, hj2, hm4⟩; have HJ := Aside0.mk (show A ≤ j ∧ j < B from ⟨hj1, hj2⟩); have HM4 := Aside0.mk hm4; obtain ⟨j1, hj1e⟩ : ∃ j1, j1 = j + 1 := ⟨_, rfl⟩; have ej : wrap64 ((j : Int) + 1) = (j1 : Int) := (by rw [hj1e]; exact nat_one j (Nat.le_trans (Nat.le_of_lt (Nat.lt_of_lt_of_le hj2 hab.out.2)) (Nat.le_trans HN.out (by decide)))); have HJ1 := Aside0.mk hj1e; clear hj1 hj2 hm4 hj1e) | (go_at_call 70; with_reducible refine (HREC.out A j l1 _ HM4.out (rec_left HJ.out.1 HJ.out.2 hab.out.2 hnn.out.1 hnn.out.2 HLC.out.2.1 HLC.out.2.2) HLC.out.2.2).mono ?_; rintro e w5 ⟨rfl, hm5⟩) | (go_at_call 70; with_reducible refine (HREC.out j1 B l1 _ HM4.out (rec_right HJ1.out HJ.out.1 HJ.out.2 hab.out.2 hnn.out.1 hnn.out.2 HLC.out.2.1 HLC.out.2.2) HLC.out.2.2).mono ?_; rintro e w5 ⟨rfl, hm5⟩))
                all_goals first
                  | (go_roundg (B - j1); (case measure => have := hgk.out; have := HJ.out; have := HJ1.out; omega); (case rel => exact ⟨j1, B, l1, _, _, _, _, _, rfl, rfl, rfl, rfl, rfl, ⟨by first | exact ej | rfl⟩, ⟨rfl⟩, ⟨by first | rfl | exact EL.out⟩, ⟨by have := HJ1.out; have := HJ.out; have := hab.out; omega⟩, ⟨Nat.le_refl _⟩, ⟨by have := HJ1.out; have := HJ.out; have := hnn.out; omega⟩, ⟨by have := HJ1.out; have := HJ.out; have := HLC.out; have := hl.out; omega⟩, ⟨hm5⟩⟩))
                  | (go_roundg (j - A); (case measure => have := hgk.out; have := HJ.out; omega); (case rel => exact ⟨A, j, l1, _, _, _, _, _, rfl, rfl, rfl, rfl, rfl, ⟨rfl⟩, ⟨rfl⟩, ⟨by first | rfl | exact EL.out⟩, ⟨by have := HJ.out; have := hab.out; omega⟩, ⟨Nat.le_refl _⟩, ⟨by have := HJ.out; have := hnn.out; omega⟩, ⟨by have := HJ.out; have := HLC.out; have := hl.out; omega⟩, ⟨hm5⟩⟩))
              · have hbd : decide (xm < xu) = false := decide_eq_false hc
                go_quiet ((go_at_call 86; refine (less_any xm xu _).mono ?_; rw [hbd]; rintro e w' ⟨rfl, ⟨nd, rfl⟩⟩; with_reducible first | exact ⟨rfl, _, (World.drewN_drewN _ _ _).trans (congrArg w2.drewN (Nat.add_assoc _ _ _))⟩ | exact ⟨rfl, _, World.drewN_drewN _ _ _⟩ | exact ⟨rfl, _, rfl⟩))
                go_wp2_with (go_at_call 87; refine (c_eq HN.out _ A B u (hm2.drewN HG.out _) hab.out.2 HU.out HU2.out).mono ?_; rintro e w4 ⟨j, rfl, hj1, hj2, hm4⟩; have HJ := Aside0.mk (show A < j ∧ j ≤ B from ⟨hj1, hj2⟩); have HM4 := Aside0.mk hm4; clear hj1 hj2 hm4)
                go_roundg (B - j)
                case measure => have := hgk.out; have := HJ.out; omega
                case rel => exact ⟨j, B, l1, _, _, _, _, _, rfl, rfl, rfl, rfl, rfl, ⟨rfl⟩, ⟨rfl⟩, ⟨by first | rfl | exact EL.out⟩, ⟨by have := HJ.out; have := hab.out; omega⟩, ⟨Nat.le_refl _⟩, ⟨by have := HJ.out; have := hnn.out; omega⟩, ⟨by have := HJ.out; have := HLC.out; have := hl.out; omega⟩, HM4⟩
            · have hAz : ((0 : Int) < (A : Int)) = False := eq_false (fun h => hA0 (Int.ofNat_lt.1 h))
              have hA1 : (0 < A) = False := eq_false hA0
              clear hA0 hd2 hH2
              go_quiet (fail)
              go_wp2_with (first | (go_at_call 88; refine (c_part HN.out _ A B u (hm2.drewN HG.out _) hab.out.2 HU.out HU2.out).mono ?_; rintro e w4 ⟨j, r4, rfl, hj1, hj2, hm4⟩; have HJ := Aside0.mk (show A ≤ j ∧ j < B from ⟨hj1, hj2⟩); have HM4 := Aside0.mk hm4; obtain ⟨j1, hj1e⟩ : ∃ j1, j1 = j + 1 := ⟨_, rfl⟩; have ej : wrap64 ((j : Int) + 1) = (j1 : Int) := (by rw [hj1e]; exact nat_one j (Nat.le_trans (Nat.le_of_lt (Nat.lt_of_lt_of_le hj2 hab.out.2)) (Nat.le_trans HN.out (by decide)))); have HJ1 := Aside0.mk hj1e; clear hj1 hj2 hm4 hj1e) | (go_at_call 70; with_reducible refine (HREC.out A j l1 _ HM4.out (rec_left HJ.out.1 HJ.out.2 hab.out.2 hnn.out.1 hnn.out.2 HLC.out.2.1 HLC.out.2.2) HLC.out.2.2).mono ?_; rintro e w5 ⟨rfl, hm5⟩) | (go_at_call 70; with_reducible refine (HREC.out j1 B l1 _ HM4.out (rec_right HJ1.out HJ.out.1 HJ.out.2 hab.out.2 hnn.out.1 hnn.out.2 HLC.out.2.1 HLC.out.2.2) HLC.out.2.2).mono ?_; rintro e w5 ⟨rfl, hm5⟩))
              all_goals first
                | (go_roundg (B - j1); (case measure => have := hgk.out; have := HJ.out; have := HJ1.out; omega); (case rel => exact ⟨j1, B, l1, _, _, _, _, _, rfl, rfl, rfl, rfl, rfl, ⟨by first | exact ej | rfl⟩, ⟨rfl⟩, ⟨by first | rfl | exact EL.out⟩, ⟨by have := HJ1.out; have := HJ.out; have := hab.out; omega⟩, ⟨Nat.le_refl _⟩, ⟨by have := HJ1.out; have := HJ.out; have := hnn.out; omega⟩, ⟨by have := HJ1.out; have := HJ.out; have := HLC.out; have := hl.out; omega⟩, ⟨hm5⟩⟩))
                | (go_roundg (j - A); (case measure => have := hgk.out; have := HJ.out; omega); (case rel => exact ⟨A, j, l1, _, _, _, _, _, rfl, rfl, rfl, rfl, rfl, ⟨rfl⟩, ⟨rfl⟩, ⟨by first | rfl | exact EL.out⟩, ⟨by have := HJ.out; have := hab.out; omega⟩, ⟨Nat.le_refl _⟩, ⟨by have := HJ.out; have := hnn.out; omega⟩, ⟨by have := HJ.out; have := HLC.out; have := hl.out; omega⟩, ⟨hm5⟩⟩))
        · go_wp2_with (first | (go_at_call 82; refine (c_break HG.out HN.out _ A B hm.out hab.out.2 HBA.out.1 HBA.out.2.1).mono ?_; rintro e w1 ⟨rfl, hm1⟩) | (go_at_call 83; refine (c_pivot HG.out HN.out _ A B (by first | exact hm1 | exact hm.out) hab.out.2 HBA.out.1 HBA.out.2.2.1).mono ?_; rintro e w2 ⟨u, t, rfl, hu1, hu2, ht, hm2⟩; have ht2 : (t == 2) = false := (by rcases ht with rfl | rfl <;> rfl); have ht3 : decide (t = 2) = false := (by rcases ht with rfl | rfl <;> rfl); have HU := Aside0.mk hu1; have HU2 := Aside0.mk hu2; clear hu1 hu2 ht) | (go_at_call 85; refine (c_pins HN.out _ A B hm2 HBA.out.2.2.2 hab.out.2 HBA.out.2.2.1).mono ?_; rintro e w3 ⟨r, n3, rfl, rfl⟩))
          all_goals first
            | ((first | go_end0 | ((try simp only [Exit.inBlock, Exit.then]); refine bodyPost_ret (results_none rfl _ _ _) rfl ?_)); exact ⟨rfl, hm2.drewN HG.out _⟩)
            | skip
          all_goals
            obtain ⟨d2, hd2, hH2⟩ := hm2.row
            by_cases hA0 : 0 < A
            · obtain ⟨m, hmA⟩ : ∃ m, A = m + 1 := ⟨A - 1, by omega⟩
              have hAN : A ≤ N := Nat.le_trans hab.out.1 hab.out.2
              have em := nat_pred A m hmA (Nat.le_trans hAN (Nat.le_trans HN.out (by decide)))
              have mN : m < N := by have h1 := hAN; clear eL em el; omega
              have uN : u < N := Nat.lt_of_lt_of_le HU2.out hab.out.2
              have cm := holds_at hH2 hd2 m mN
              have cu := holds_at hH2 hd2 u uN
              generalize d2[m]! = xm at cm
              generalize d2[u]! = xu at cu
              have lm : (m : Int) < (N : Int) := Int.ofNat_lt.2 mN
              have lu : (u : Int) < (N : Int) := Int.ofNat_lt.2 uN
              have hAz : (0 : Int) < (A : Int) := Int.ofNat_lt.2 hA0
              have hA1 : (0 < A) = True := eq_true hA0
              clear hmA hAN mN uN hA0 hd2 hH2
              by_cases hc : xm < xu
              · have hbd : decide (xm < xu) = true := decide_eq_true hc
                go_quiet ((go_at_call 86; refine (less_any xm xu _).mono ?_; rw [hbd]; rintro e w' ⟨rfl, ⟨nd, rfl⟩⟩; with_reducible first | exact ⟨rfl, _, (World.drewN_drewN _ _ _).trans (congrArg w2.drewN (Nat.add_assoc _ _ _))⟩ | exact ⟨rfl, _, World.drewN_drewN _ _ _⟩ | exact ⟨rfl, _, rfl⟩))
                go_wp2_with (first | (go_at_call 88; refine (c_part HN.out _ A B u (hm2.drewN HG.out _) hab.out.2 HU.out HU2.out).mono ?_; rintro e w4 ⟨j, r4, rfl, hj1, hj2, hm4⟩; have HJ := Aside0.mk (show A ≤ j ∧ j < B from ⟨hj1, hj2⟩); have HM4 := Aside0.mk hm4; obtain ⟨j1, hj1e⟩ : ∃ j1, j1 = j + 1 := ⟨_, rfl⟩; have ej : wrap64 ((j : Int) + 1) = (j1 : Int) := (by rw [hj1e]; exact nat_one j (Nat.le_trans (Nat.le_of_lt (Nat.lt_of_lt_of_le hj2 hab.out.2)) (Nat.le_trans HN.out (by decide)))); have HJ1 := Aside0.mk hj1e; clear hj1 hj2 hm4 hj1e) | (go_at_call 70; with_reducible refine (HREC.out A j l _ HM4.out (rec_left HJ.out.1 HJ.out.2 hab.out.2 hnn.out.1 hnn.out.2 HLC.out.1 hl.out.2) hl.out.2).mono ?_; rintro e w5 ⟨rfl, hm5⟩) | (go_at_call 70; with_reducible refine (HREC.out j1 B l _ HM4.out (rec_right HJ1.out HJ.out.1 HJ.out.2 hab.out.2 hnn.out.1 hnn.out.2 HLC.out.1 hl.out.2) hl.out.2).mono ?_; rintro e w5 ⟨rfl, hm5⟩))
                all_goals first
                  | (go_roundg (B - j1); (case measure => have := hgk.out; have := HJ.out; have := HJ1.out; omega); (case rel => exact ⟨j1, B, l, _, _, _, _, _, rfl, rfl, rfl, rfl, rfl, ⟨by first | exact ej | rfl⟩, ⟨rfl⟩, ⟨by first | rfl | exact EL.out⟩, ⟨by have := HJ1.out; have := HJ.out; have := hab.out; omega⟩, ⟨Nat.le_refl _⟩, ⟨by have := HJ1.out; have := HJ.out; have := hnn.out; omega⟩, ⟨by have := HJ1.out; have := HJ.out; have := HLC.out; have := hl.out; omega⟩, ⟨hm5⟩⟩))
                  | (go_roundg (j - A); (case measure => have := hgk.out; have := HJ.out; omega); (case rel => exact ⟨A, j, l, _, _, _, _, _, rfl, rfl, rfl, rfl, rfl, ⟨rfl⟩, ⟨rfl⟩, ⟨by first | rfl | exact EL.out⟩, ⟨by have := HJ.out; have := hab.out; omega⟩, ⟨Nat.le_refl _⟩, ⟨by have := HJ.out; have := hnn.out; omega⟩, ⟨by have := HJ.out; have := HLC.out; have := hl.out; omega⟩, ⟨hm5⟩⟩))
              · have hbd : decide (xm < xu) = false := decide_eq_false hc
                go_quiet ((go_at_call 86; refine (less_any xm xu _).mono ?_; rw [hbd]; rintro e w' ⟨rfl, ⟨nd, rfl⟩⟩; with_reducible first | exact ⟨rfl, _, (World.drewN_drewN _ _ _).trans (congrArg w2.drewN (Nat.add_assoc _ _ _))⟩ | exact ⟨rfl, _, World.drewN_drewN _ _ _⟩ | exact ⟨rfl, _, rfl⟩))
                go_wp2_with (go_at_call 87; refine (c_eq HN.out _ A B u (hm2.drewN HG.out _) hab.out.2 HU.out HU2.out).mono ?_; rintro e w4 ⟨j, rfl, hj1, hj2, hm4⟩; have HJ := Aside0.mk (show A < j ∧ j ≤ B from ⟨hj1, hj2⟩); have HM4 := Aside0.mk hm4; clear hj1 hj2 hm4)
                go_roundg (B - j)
                case measure => have := hgk.out; have := HJ.out; omega
                case rel => exact ⟨j, B, l, _, _, _, _, _, rfl, rfl, rfl, rfl, rfl, ⟨rfl⟩, ⟨rfl⟩, ⟨by first | rfl | exact EL.out⟩, ⟨by have := HJ.out; have := hab.out; omega⟩, ⟨Nat.le_refl _⟩, ⟨by have := HJ.out; have := hnn.out; omega⟩, ⟨by have := HJ.out; have := HLC.out; have := hl.out; omega⟩, HM4⟩
            · have hAz : ((0 : Int) < (A : Int)) = False := eq_false (fun h => hA0 (Int.ofNat_lt.1 h))
              have hA1 : (0 < A) = False := eq_false hA0
              clear hA0 hd2 hH2
              go_quiet (fail)
              go_wp2_with (first | (go_at_call 88; refine (c_part HN.out _ A B u (hm2.drewN HG.out _) hab.out.2 HU.out HU2.out).mono ?_; rintro e w4 ⟨j, r4, rfl, hj1, hj2, hm4⟩; have HJ := Aside0.mk (show A ≤ j ∧ j < B from ⟨hj1, hj2⟩); have HM4 := Aside0.mk hm4; obtain ⟨j1, hj1e⟩ : ∃ j1, j1 = j + 1 := ⟨_, rfl⟩; have ej : wrap64 ((j : Int) + 1) = (j1 : Int) := (by rw [hj1e]; exact nat_one j (Nat.le_trans (Nat.le_of_lt (Nat.lt_of_lt_of_le hj2 hab.out.2)) (Nat.le_trans HN.out (by decide)))); have HJ1 := Aside0.mk hj1e; clear hj1 hj2 hm4 hj1e) | (go_at_call 70; with_reducible refine (HREC.out A j l _ HM4.out (rec_left HJ.out.1 HJ.out.2 hab.out.2 hnn.out.1 hnn.out.2 HLC.out.1 hl.out.2) hl.out.2).mono ?_; rintro e w5 ⟨rfl, hm5⟩) | (go_at_call 70; with_reducible refine (HREC.out j1 B l _ HM4.out (rec_right HJ1.out HJ.out.1 HJ.out.2 hab.out.2 hnn.out.1 hnn.out.2 HLC.out.1 hl.out.2) hl.out.2).mono ?_; rintro e w5 ⟨rfl, hm5⟩))
              all_goals first
                | (go_roundg (B - j1); (case measure => have := hgk.out; have := HJ.out; have := HJ1.out; omega); (case rel => exact ⟨j1, B, l, _, _, _, _, _, rfl, rfl, rfl, rfl, rfl, ⟨by first | exact ej | rfl⟩, ⟨rfl⟩, ⟨by first | rfl | exact EL.out⟩, ⟨by have := HJ1.out; have := HJ.out; have := hab.out; omega⟩, ⟨Nat.le_refl _⟩, ⟨by have := HJ1.out; have := HJ.out; have := hnn.out; omega⟩, ⟨by have := HJ1.out; have := HJ.out; have := HLC.out; have := hl.out; omega⟩, ⟨hm5⟩⟩))
                | (go_roundg (j - A); (case measure => have := hgk.out; have := HJ.out; omega); (case rel => exact ⟨A, j, l, _, _, _, _, _, rfl, rfl, rfl, rfl, rfl, ⟨rfl⟩, ⟨rfl⟩, ⟨by first | rfl | exact EL.out⟩, ⟨by have := HJ.out; have := hab.out; omega⟩, ⟨Nat.le_refl _⟩, ⟨by have := HJ.out; have := hnn.out; omega⟩, ⟨by have := HJ.out; have := HLC.out; have := hl.out; omega⟩, ⟨hm5⟩⟩))
        · go_wp2_with (first | (go_at_call 82; refine (c_break HG.out HN.out _ A B hm.out hab.out.2 HBA.out.1 HBA.out.2.1).mono ?_; rintro e w1 ⟨rfl, hm1⟩) | (go_at_call 83; refine (c_pivot HG.out HN.out _ A B (by first | exact hm1 | exact hm.out) hab.out.2 HBA.out.1 HBA.out.2.2.1).mono ?_; rintro e w2 ⟨u, t, rfl, hu1, hu2, ht, hm2⟩; have ht2 : (t == 2) = false := (by rcases ht with rfl | rfl <;> rfl); have ht3 : decide (t = 2) = false := (by rcases ht with rfl | rfl <;> rfl); have HU := Aside0.mk hu1; have HU2 := Aside0.mk hu2; clear hu1 hu2 ht) | (go_at_call 85; refine (c_pins HN.out _ A B hm2 HBA.out.2.2.2 hab.out.2 HBA.out.2.2.1).mono ?_; rintro e w3 ⟨r, n3, rfl, rfl⟩))
          all_goals first
            | ((first | go_end0 | ((try simp only [Exit.inBlock, Exit.then]); refine bodyPost_ret (results_none rfl _ _ _) rfl ?_)); exact ⟨rfl, hm2.drewN HG.out _⟩)
            | skip
          all_goals
            obtain ⟨d2, hd2, hH2⟩ := hm2.row
            by_cases hA0 : 0 < A
            · obtain ⟨m, hmA⟩ : ∃ m, A = m + 1 := ⟨A - 1, by omega⟩
              have hAN : A ≤ N := Nat.le_trans hab.out.1 hab.out.2
              have em := nat_pred A m hmA (Nat.le_trans hAN (Nat.le_trans HN.out (by decide)))
              have mN : m < N := by have h1 := hAN; clear eL em el; omega
              have uN : u < N := Nat.lt_of_lt_of_le HU2.out hab.out.2
              have cm := holds_at hH2 hd2 m mN
              have cu := holds_at hH2 hd2 u uN
              generalize d2[m]! = xm at cm
              generalize d2[u]! = xu at cu
              have lm : (m : Int) < (N : Int) := Int.ofNat_lt.2 mN
              have lu : (u : Int) < (N : Int) := Int.ofNat_lt.2 uN
              have hAz : (0 : Int) < (A : Int) := Int.ofNat_lt.2 hA0
              have hA1 : (0 < A) = True := eq_true hA0
              clear hmA hAN mN uN hA0 hd2 hH2
              by_cases hc : xm < xu
              · have hbd : decide (xm < xu) = true := decide_eq_true hc
                go_quiet ((go_at_call 86; refine (less_any xm xu _).mono ?_; rw [hbd]; rintro e w' ⟨rfl, ⟨nd, rfl⟩⟩; with_reducible first | exact ⟨rfl, _, (World.drewN_drewN _ _ _).trans (congrArg w2.drewN (Nat.add_assoc _ _ _))⟩ | exact ⟨rfl, _, World.drewN_drewN _ _ _⟩ | exact ⟨rfl, _, rfl⟩))
                go_wp2_with (first | (go_at_call 88; refine (c_part HN.out _ A B u (hm2.drewN HG.out _) hab.out.2 HU.out HU2.out).mono ?_; rintro e w4 ⟨j, r4, rfl, hj1, hj2, hm4⟩; have HJ := Aside0.mk (show A ≤ j ∧ j < B from ⟨hj1, hj2⟩); have HM4 := Aside0.mk hm4; obtain ⟨j1, hj1e⟩ : ∃ j1, j1 = j + 1 := ⟨_, rfl⟩; have ej : wrap64 ((j : Int) + 1) = (j1 : Int) := (by rw [hj1e]; exact nat_one j (Nat.le_trans (Nat.le_of_lt (Nat.lt_of_lt_of_le hj2 hab.out.2)) (Nat.le_trans HN.out (by decide)))); have HJ1 := Aside0.mk hj1e; clear hj1 hj2 hm4 hj1e) | (go_at_call 70; with_reducible refine (HREC.out A j l _ HM4.out (rec_left HJ.out.1 HJ.out.2 hab.out.2 hnn.out.1 hnn.out.2 HLC.out.1 hl.out.2) hl.out.2).mono ?_; rintro e w5 ⟨rfl, hm5⟩) | (go_at_call 70; with_reducible refine (HREC.out j1 B l _ HM4.out (rec_right HJ1.out HJ.out.1 HJ.out.2 hab.out.2 hnn.out.1 hnn.out.2 HLC.out.1 hl.out.2) hl.out.2).mono ?_; rintro e w5 ⟨rfl, hm5⟩))
                all_goals first
                  | (go_roundg (B - j1); (case measure => have := hgk.out; have := HJ.out; have := HJ1.out; omega); (case rel => exact ⟨j1, B, l, _, _, _, _, _, rfl, rfl, rfl, rfl, rfl, ⟨by first | exact ej | rfl⟩, ⟨rfl⟩, ⟨by first | rfl | exact EL.out⟩, ⟨by have := HJ1.out; have := HJ.out; have := hab.out; omega⟩, ⟨Nat.le_refl _⟩, ⟨by have := HJ1.out; have := HJ.out; have := hnn.out; omega⟩, ⟨by have := HJ1.out; have := HJ.out; have := HLC.out; have := hl.out; omega⟩, ⟨hm5⟩⟩))
                  | (go_roundg (j - A); (case measure => have := hgk.out; have := HJ.out; omega); (case rel => exact ⟨A, j, l, _, _, _, _, _, rfl, rfl, rfl, rfl, rfl, ⟨rfl⟩, ⟨rfl⟩, ⟨by first | rfl | exact EL.out⟩, ⟨by have := HJ.out; have := hab.out; omega⟩, ⟨Nat.le_refl _⟩, ⟨by have := HJ.out; have := hnn.out; omega⟩, ⟨by have := HJ.out; have := HLC.out; have := hl.out; omega⟩, ⟨hm5⟩⟩))
              · have hbd : decide (xm < xu) = false := decide_eq_false hc
                go_quiet ((go_at_call 86; refine (less_any xm xu _).mono ?_; rw [hbd]; rintro e w' ⟨rfl, ⟨nd, rfl⟩⟩; with_reducible first | exact ⟨rfl, _, (World.drewN_drewN _ _ _).trans (congrArg w2.drewN (Nat.add_assoc _ _ _))⟩ | exact ⟨rfl, _, World.drewN_drewN _ _ _⟩ | exact ⟨rfl, _, rfl⟩))
                go_wp2_with (go_at_call 87; refine (c_eq HN.out _ A B u (hm2.drewN HG.out _) hab.out.2 HU.out HU2.out).mono ?_; rintro e w4 ⟨j, rfl, hj1, hj2, hm4⟩; have HJ := Aside0.mk (show A < j ∧ j ≤ B from ⟨hj1, hj2⟩); have HM4 := Aside0.mk hm4; clear hj1 hj2 hm4)
                go_roundg (B - j)
                case measure => have := hgk.out; have := HJ.out; omega
                case rel => exact ⟨j, B, l, _, _, _, _, _, rfl, rfl, rfl, rfl, rfl, ⟨rfl⟩, ⟨rfl⟩, ⟨by first | rfl | exact EL.out⟩, ⟨by have := HJ.out; have := hab.out; omega⟩, ⟨Nat.le_refl _⟩, ⟨by have := HJ.out; have := hnn.out; omega⟩, ⟨by have := HJ.out; have := HLC.out; have := hl.out; omega⟩, HM4⟩
            · have hAz : ((0 : Int) < (A : Int)) = False := eq_false (fun h => hA0 (Int.ofNat_lt.1 h))
              have hA1 : (0 < A) = False := eq_false hA0
              clear hA0 hd2 hH2
              go_quiet (fail)
              go_wp2_with (first | (go_at_call 88; refine (c_part HN.out _ A B u (hm2.drewN HG.out _) hab.out.2 HU.out HU2.out).mono ?_; rintro e w4 ⟨j, r4, rfl, hj1, hj2, hm4⟩; have HJ := Aside0.mk (show A ≤ j ∧ j < B from ⟨hj1, hj2⟩); have HM4 := Aside0.mk hm4; obtain ⟨j1, hj1e⟩ : ∃ j1, j1 = j + 1 := ⟨_, rfl⟩; have ej : wrap64 ((j : Int) + 1) = (j1 : Int) := (by rw [hj1e]; exact nat_one j (Nat.le_trans (Nat.le_of_lt (Nat.lt_of_lt_of_le hj2 hab.out.2)) (Nat.le_trans HN.out (by decide)))); have HJ1 := Aside0.mk hj1e; clear hj1 hj2 hm4 hj1e) | (go_at_call 70; with_reducible refine (HREC.out A j l _ HM4.out (rec_left HJ.out.1 HJ.out.2 hab.out.2 hnn.out.1 hnn.out.2 HLC.out.1 hl.out.2) hl.out.2).mono ?_; rintro e w5 ⟨rfl, hm5⟩) | (go_at_call 70; with_reducible refine (HREC.out j1 B l _ HM4.out (rec_right HJ1.out HJ.out.1 HJ.out.2 hab.out.2 hnn.out.1 hnn.out.2 HLC.out.1 hl.out.2) hl.out.2).mono ?_; rintro e w5 ⟨rfl, hm5⟩))
              all_goals first
                | (go_roundg (B - j1); (case measure => have := hgk.out; have := HJ.out; have := HJ1.out; omega); (case rel => exact ⟨j1, B, l, _, _, _, _, _, rfl, rfl, rfl, rfl, rfl, ⟨by first | exact ej | rfl⟩, ⟨rfl⟩, ⟨by first | rfl | exact EL.out⟩, ⟨by have := HJ1.out; have := HJ.out; have := hab.out; omega⟩, ⟨Nat.le_refl _⟩, ⟨by have := HJ1.out; have := HJ.out; have := hnn.out; omega⟩, ⟨by have := HJ1.out; have := HJ.out; have := HLC.out; have := hl.out; omega⟩, ⟨hm5⟩⟩))
                | (go_roundg (j - A); (case measure => have := hgk.out; have := HJ.out; omega); (case rel => exact ⟨A, j, l, _, _, _, _, _, rfl, rfl, rfl, rfl, rfl, ⟨rfl⟩, ⟨rfl⟩, ⟨by first | rfl | exact EL.out⟩, ⟨by have := HJ.out; have := hab.out; omega⟩, ⟨Nat.le_refl _⟩, ⟨by have := HJ.out; have := hnn.out; omega⟩, ⟨by have := HJ.out; have := HLC.out; have := hl.out; omega⟩, ⟨hm5⟩⟩))

end Go.Proofs.Ytpdcjkiejglaiaa.Q

/-
  slices.Sort on bytes: at most 12 are sorted; 13 to 17: it returns, and the row alone may have turned.
-/
namespace Go.Proofs.Ytpdcjkiejglaiaa.Q
open Go.RowKit Go.Proofs.YtpdcjkiejglaiaaW.PrintWords Go.Proofs.YtpdcjkiejglaiaaW.PrintLast Go.Proofs.YtpdcjkiejglaiaaW.PrintMore
set_option linter.unusedVariables false
set_option linter.unusedSimpArgs false

set_option maxHeartbeats 4000000 in
set_option maxRecDepth 100000 in
theorem sort_small (g cap N : Nat) (d : Array Int) (w : World) (hH : Sort.Holds enc8 w g 0 d) (hd : d.size = N) (hN : N ≤ 12) :
    Calls Try.prog 63 #[.slice (some ⟨g, 0, none⟩) N cap] w fun e w' => e = .returned (.tuple #[]) ∧ ∃ n, (Sort.insertionSort lt8 d 0 N).size = N ∧ w' = Sort.putRow enc8 (Sort.ahead w n) g 0 (Sort.insertionSort lt8 d 0 N) := by
  have P := fun lim => pdq_small_any g cap N 0 N lim d w hH hd (by omega) (Nat.zero_le _) (Nat.le_refl _) (by omega)
  have e1 := u64_small N (by omega)
  have HP := Aside0.mk P
  have HN := Aside0.mk hN
  clear P hH hd hN
  go_enter Try.func63, Try.ntmps63
  go_wp2_with (first | (go_at_call 71; refine (Try.bits_Len (N : Int) _ (by omega) (by have := HN.out; omega)).mono ?_; rintro e w9 ⟨rfl, rfl⟩) | (go_at_call 70; refine (HP.out _).mono ?_; rintro e w1 ⟨rfl, n, hs, rfl⟩))
  first | go_end0 | ((try simp only [Exit.inBlock, Exit.then]); refine bodyPost_ret (results_none rfl _ _ _) rfl ?_)
  first | exact ⟨rfl, n, hs, rfl⟩ | exact ⟨rfl, hs, n, rfl⟩

set_option maxHeartbeats 4000000 in
set_option maxRecDepth 100000 in
theorem sort_mess (g cap N : Nat) (d : Array Int) (w : World) (hH : Sort.Holds enc8 w g 0 d) (hd : d.size = N) (hg : g < w.heap.size) (h13 : 13 ≤ N) (hN : N ≤ 17) :
    Calls Try.prog 63 #[.slice (some ⟨g, 0, none⟩) N cap] w fun e w' => e = .returned (.tuple #[]) ∧ Mess g N w w' := by
  obtain ⟨l, hl, hl2, hl3⟩ : ∃ l : Nat, Lib.bitLen N = l ∧ N ≤ l + 12 ∧ l ≤ 100 := by
    obtain rfl | rfl | rfl | rfl | rfl : N = 13 ∨ N = 14 ∨ N = 15 ∨ N = 16 ∨ N = 17 := by omega
    · exact ⟨4, by decide, by decide, by decide⟩
    · exact ⟨4, by decide, by decide, by decide⟩
    · exact ⟨4, by decide, by decide, by decide⟩
    · exact ⟨5, by decide, by decide, by decide⟩
    · exact ⟨5, by decide, by decide, by decide⟩
  have P := pdq_any g cap N w hg (by omega) N 0 N l w (Mess.refl hH hd) (Nat.zero_le _) (Nat.le_refl _) (Nat.sub_le _ _) (by omega) (by omega) hl3
  have e1 := u64_small N (by omega)
  have HP := Aside0.mk P
  have HN := Aside0.mk hN
  clear P hH hd hg h13 hN hl2 hl3
  go_enter Try.func63, Try.ntmps63
  go_wp2_with (first | (go_at_call 71; refine (Try.bits_Len (N : Int) _ (by omega) (by have := HN.out; omega)).mono ?_; rw [Int.toNat_natCast, hl]; rintro e w9 ⟨rfl, rfl⟩) | (go_at_call 70; refine HP.out.mono ?_; rintro e w1 ⟨rfl, hm⟩))
  first | go_end0 | ((try simp only [Exit.inBlock, Exit.then]); refine bodyPost_ret (results_none rfl _ _ _) rfl ?_)
  exact ⟨rfl, hm⟩

end Go.Proofs.Ytpdcjkiejglaiaa.Q

/- Laid by a program of this session (wip/tools/own_print.py) over the translation of this seat: contracts of the functions that the statement reaches. -/
namespace Go.Proofs.Ytpdcjkiejglaiaa.Q
open Go.RowKit Go.Proofs.YtpdcjkiejglaiaaW.PrintWords Go.Proofs.YtpdcjkiejglaiaaW.PrintLast Go.Proofs.YtpdcjkiejglaiaaW.PrintMore
attribute [local go_sem] max2_int min2_int max_two min_two max_three min_three max_four min_four   -- for this text's walks alone
set_option linter.unusedVariables false
set_option linter.unusedSimpArgs false

/-! ### impl_within: function 53 -/
def impl_within.f (a0 : Int) (a1 : Int) (a2 : Int) : Option (Bool) := if a1 ≤ a0 then (some (decide (a0 ≤ a2))) else (some false)
set_option maxHeartbeats 8000000 in
set_option maxRecDepth 100000 in
theorem impl_within.calls (a0 : Int) (a1 : Int) (a2 : Int) (r : Bool) (w : World) (h : impl_within.f a0 a1 a2 = some r) :
    Calls Try.prog 53 #[.int .i64 a0, .int .i64 a1, .int .i64 a2] w fun e w' => e = .returned (.bool r) ∧ Drawn0 w w' := by
  have H : (if a1 ≤ a0 then (some (decide (a0 ≤ a2))) else (some false)) = some r := h
  clear h
  by_cases c4 : a1 ≤ a0
  · rw [if_pos c4] at H
    have c4b0 : decide (a1 ≤ a0) = true := decide_eq_true c4
    clear c4
    obtain rfl := Option.some.inj H
    go_enter Try.func53, Try.ntmps53
    go_wp2
    go_ret
    exact ⟨by first | rfl | (simp; done) | (simp [*]; done), by repeat (first | exact Drawn0.refl _ | apply Drawn0.step)⟩
  · rw [if_neg c4] at H
    have c4b0 : decide (a1 ≤ a0) = false := decide_eq_false c4
    clear c4
    obtain rfl := Option.some.inj H
    go_enter Try.func53, Try.ntmps53
    go_wp2
    go_ret
    exact ⟨by first | rfl | (simp; done) | (simp [*]; done), by repeat (first | exact Drawn0.refl _ | apply Drawn0.step)⟩

end Go.Proofs.Ytpdcjkiejglaiaa.Q

/- Laid by a program of this session (wip/tools/own_print.py) over the translation of this seat: contracts of the functions that the statement reaches. -/
namespace Go.Proofs.Ytpdcjkiejglaiaa.Q
open Go.RowKit Go.Proofs.YtpdcjkiejglaiaaW.PrintWords Go.Proofs.YtpdcjkiejglaiaaW.PrintLast Go.Proofs.YtpdcjkiejglaiaaW.PrintMore
attribute [local go_sem] max2_int min2_int max_two min_two max_three min_three max_four min_four   -- for this text's walks alone
set_option linter.unusedVariables false
set_option linter.unusedSimpArgs false

/-! ### impl_areDigits: function 31 -/
def impl_areDigits.l0 : Nat → ByteArray → Int → Int → Int → Int → Option (Bool)
  | 0, _, _, _, _, _ => none
  | k + 1, x0, x1, x2, x9, x10 => if x10 < x9 then (if 0 ≤ x10 then (if x10 < (x0.size : Int) then (if (bt x0 x10) < 48 then (some false) else (if (bt x0 x10) > 57 then (some false) else (impl_areDigits.l0 k x0 x1 x2 x9 (wrap64 (x10 + 1))))) else (none)) else (none)) else ((impl_within.f (x0.size : Int) x1 x2).bind fun t101 => (some t101))
def impl_areDigits.f (k : Nat) (a0 : ByteArray) (a1 : Int) (a2 : Int) : Option (Bool) := impl_areDigits.l0 k a0 a1 a2 (a0.size : Int) 0
theorem impl_areDigits.mono_l : ∀ k, (∀ y0 y1 y2 y3 y4, LeO (impl_areDigits.l0 k y0 y1 y2 y3 y4) (impl_areDigits.l0 (k + 1) y0 y1 y2 y3 y4))
  | 0 => fun _ _ _ _ _ r h => by simp [impl_areDigits.l0] at h
  | k + 1 => by
    have ih0 := impl_areDigits.mono_l k
    · intro y0 y1 y2 y3 y4
      unfold impl_areDigits.l0
      repeat' first
      | (with_reducible exact ih0 _ _ _ _ _)
      | (with_reducible exact LeO.refl _)
      | (with_reducible exact LeO.none _)
      | (with_reducible refine LeO.ite ?_ ?_)
      | (with_reducible refine LeO.bind ?_ (fun _ => ?_))
      | exact ih0 _ _ _ _ _
      | exact LeO.none _
      | refine LeO.ite ?_ ?_
      | refine LeO.bind ?_ (fun _ => ?_)
theorem impl_areDigits.mono : ∀ a0 a1 a2 k, LeO (impl_areDigits.f k a0 a1 a2) (impl_areDigits.f (k + 1) a0 a1 a2) := by
  intro a0 a1 a2 k
  have ih0 := impl_areDigits.mono_l k
  unfold impl_areDigits.f
  repeat' first
      | (with_reducible exact ih0 _ _ _ _ _)
      | (with_reducible exact LeO.refl _)
      | (with_reducible exact LeO.none _)
      | (with_reducible refine LeO.ite ?_ ?_)
      | (with_reducible refine LeO.bind ?_ (fun _ => ?_))
      | exact ih0 _ _ _ _ _
      | exact LeO.none _
      | refine LeO.ite ?_ ?_
      | refine LeO.bind ?_ (fun _ => ?_)
set_option maxHeartbeats 8000000 in
set_option maxRecDepth 100000 in
theorem impl_areDigits.calls (k : Nat) (a0 : ByteArray) (a1 : Int) (a2 : Int) (r : Bool) (w : World) (h : impl_areDigits.f k a0 a1 a2 = some r) :
    Calls Try.prog 31 #[.string a0, .int .i64 a1, .int .i64 a2] w fun e w' => e = .returned (.bool r) ∧ Drawn0 w w' := by
  have H : (impl_areDigits.l0 k a0 a1 a2 (a0.size : Int) 0) = some r := h
  clear h
  have H' := Aside0.mk H
  clear H
  go_enter Try.func31, Try.ntmps31
  go_wp2
  go_loopg [10] k (fun kq v10 w' => ∃ (x10_1 : Int), v10 = .int .i64 x10_1 ∧ Aside0 (impl_areDigits.l0 kq a0 a1 a2 (a0.size : Int) x10_1 = some r) ∧ Aside0 (kq ≤ k) ∧ Drawn0 w w')
  case atStart => exact ⟨(0), (by first | rfl | (simp; done) | (simp [*]; done)), H', ⟨Nat.le_refl _⟩, by repeat (first | exact Drawn0.refl _ | apply Drawn0.step)⟩
  case round =>
    clear H'
    try clear p2
    try clear c3
    obtain ⟨x10_1, rfl, HA, HK1, ⟨m1, rfl⟩⟩ := hrel
    cases gk with
    | zero => exact absurd HA.out (by simp [impl_areDigits.l0])
    | succ k1 =>
      have H := HA.out
      clear HA
      simp only [impl_areDigits.l0] at H
      by_cases c4 : x10_1 < (a0.size : Int)
      · rw [if_pos c4] at H
        have c4b0 : decide (x10_1 < (a0.size : Int)) = true := decide_eq_true c4
        clear c4
        by_cases c5 : 0 ≤ x10_1
        · rw [if_pos c5] at H
          have c5b0 : decide (0 ≤ x10_1) = true := decide_eq_true c5
          clear c5
          by_cases c6 : x10_1 < (a0.size : Int)
          · rw [if_pos c6] at H
            have c6b0 : decide (x10_1 < (a0.size : Int)) = true := decide_eq_true c6
            clear c6
            by_cases c8 : (bt a0 x10_1) < 48
            · rw [if_pos c8] at H
              have c8b0 : decide ((bt a0 x10_1) < 48) = true := decide_eq_true c8
              clear c8
              obtain rfl := Option.some.inj H
              have p7 : 0 ≤ (x10_1 : Int) := of_decide_eq_true (by first | (with_reducible assumption) | assumption)
              have q7 : x10_1 < (a0.size : Int) := of_decide_eq_true (by first | (with_reducible assumption) | assumption)
              have hx7 := bt_at a0 x10_1
              replace p7 := eq_true p7
              replace q7 := eq_true q7
              go_wp2
              go_ret
              exact ⟨by first | rfl | (simp; done) | (simp [*]; done), by repeat (first | exact Drawn0.refl _ | apply Drawn0.step)⟩
            · rw [if_neg c8] at H
              have c8b0 : decide ((bt a0 x10_1) < 48) = false := decide_eq_false c8
              clear c8
              by_cases c10 : (bt a0 x10_1) > 57
              · rw [if_pos c10] at H
                have c10b0 : decide (57 < (bt a0 x10_1)) = true := decide_eq_true c10
                clear c10
                obtain rfl := Option.some.inj H
                have p7 : 0 ≤ (x10_1 : Int) := of_decide_eq_true (by first | (with_reducible assumption) | assumption)
                have q7 : x10_1 < (a0.size : Int) := of_decide_eq_true (by first | (with_reducible assumption) | assumption)
                have hx7 := bt_at a0 x10_1
                replace p7 := eq_true p7
                replace q7 := eq_true q7
                have p9 : 0 ≤ (x10_1 : Int) := of_decide_eq_true (by first | (with_reducible assumption) | assumption)
                have q9 : x10_1 < (a0.size : Int) := of_decide_eq_true (by first | (with_reducible assumption) | assumption)
                have hx9 := bt_at a0 x10_1
                replace p9 := eq_true p9
                replace q9 := eq_true q9
                go_wp2
                go_ret
                exact ⟨by first | rfl | (simp; done) | (simp [*]; done), by repeat (first | exact Drawn0.refl _ | apply Drawn0.step)⟩
              · rw [if_neg c10] at H
                have c10b0 : decide (57 < (bt a0 x10_1)) = false := decide_eq_false c10
                clear c10
                have H' := Aside0.mk H
                clear H
                have p7 : 0 ≤ (x10_1 : Int) := of_decide_eq_true (by first | (with_reducible assumption) | assumption)
                have q7 : x10_1 < (a0.size : Int) := of_decide_eq_true (by first | (with_reducible assumption) | assumption)
                have hx7 := bt_at a0 x10_1
                replace p7 := eq_true p7
                replace q7 := eq_true q7
                have p9 : 0 ≤ (x10_1 : Int) := of_decide_eq_true (by first | (with_reducible assumption) | assumption)
                have q9 : x10_1 < (a0.size : Int) := of_decide_eq_true (by first | (with_reducible assumption) | assumption)
                have hx9 := bt_at a0 x10_1
                replace p9 := eq_true p9
                replace q9 := eq_true q9
                go_wp2
                go_roundg k1
                case measure => have := HK1.out; omega
                case rel => exact ⟨(wrap64 (x10_1 + 1)), (by first | rfl | (simp; done) | (simp [*]; done)), H', ⟨by have := HK1.out; omega⟩, by repeat (first | exact Drawn0.refl _ | apply Drawn0.step)⟩
          · rw [if_neg c6] at H
            exact absurd H (by simp)
        · rw [if_neg c5] at H
          exact absurd H (by simp)
      · rw [if_neg c4] at H
        have c4b0 : decide (x10_1 < (a0.size : Int)) = false := decide_eq_false c4
        clear c4
        replace H := Option.bind_eq_some_iff.mp H
        obtain ⟨t101, A110, H⟩ := H
        replace H : (some t101) = some r := H
        have A11 := Aside0.mk A110
        clear A110
        obtain rfl := Option.some.inj H
        go_wp2_with (first | ((with_reducible refine gate_callee (f := 53) rfl ?_); refine goesL_ (some 28) rfl rfl Try.func53 (by kernel_rfl) rfl #[.int .i64 (a0.size : Int), .int .i64 a1, .int .i64 a2] rfl (by (try simp only [List.map_toArray, List.map_cons, List.map_nil]); first | done | rfl | (simp only [List.length_drop, List.length_take]; rfl)) ?_; (with_reducible refine (impl_within.calls (a0.size : Int) a1 a2 t101 _ A11.out).mono ?_); rintro e w' ⟨rfl, ⟨nd, rfl⟩⟩; refine ⟨_, rfl, ?_⟩))
        go_ret
        exact ⟨by first | rfl | (simp; done) | (simp [*]; done), by repeat (first | exact Drawn0.refl _ | apply Drawn0.step)⟩

end Go.Proofs.Ytpdcjkiejglaiaa.Q

/- Laid by a program of this session (wip/tools/own_print.py) over the translation of this seat: contracts of the functions that the statement reaches. -/
namespace Go.Proofs.Ytpdcjkiejglaiaa.Q
open Go.RowKit Go.Proofs.YtpdcjkiejglaiaaW.PrintWords Go.Proofs.YtpdcjkiejglaiaaW.PrintLast Go.Proofs.YtpdcjkiejglaiaaW.PrintMore
attribute [local go_sem] max2_int min2_int max_two min_two max_three min_three max_four min_four   -- for this text's walks alone
set_option linter.unusedVariables false
set_option linter.unusedSimpArgs false

/-! ### spec_l1In: function 46 -/
def spec_l1In.f (a0 : Int) (a1 : Int) (a2 : Int) : Option (Bool) := if a0 ≥ a1 then (some (decide (a0 ≤ a2))) else (some false)
set_option maxHeartbeats 8000000 in
set_option maxRecDepth 100000 in
theorem spec_l1In.calls (a0 : Int) (a1 : Int) (a2 : Int) (r : Bool) (w : World) (h : spec_l1In.f a0 a1 a2 = some r) :
    Calls Try.prog 46 #[.int .i64 a0, .int .i64 a1, .int .i64 a2] w fun e w' => e = .returned (.bool r) ∧ Drawn0 w w' := by
  have H : (if a0 ≥ a1 then (some (decide (a0 ≤ a2))) else (some false)) = some r := h
  clear h
  by_cases c4 : a0 ≥ a1
  · rw [if_pos c4] at H
    have c4b0 : decide (a1 ≤ a0) = true := decide_eq_true c4
    clear c4
    obtain rfl := Option.some.inj H
    go_enter Try.func46, Try.ntmps46
    go_wp2
    go_ret
    exact ⟨by first | rfl | (simp; done) | (simp [*]; done), by repeat (first | exact Drawn0.refl _ | apply Drawn0.step)⟩
  · rw [if_neg c4] at H
    have c4b0 : decide (a1 ≤ a0) = false := decide_eq_false c4
    clear c4
    obtain rfl := Option.some.inj H
    go_enter Try.func46, Try.ntmps46
    go_wp2
    go_ret
    exact ⟨by first | rfl | (simp; done) | (simp [*]; done), by repeat (first | exact Drawn0.refl _ | apply Drawn0.step)⟩

end Go.Proofs.Ytpdcjkiejglaiaa.Q

/- Laid by a program of this session (wip/tools/own_print.py) over the translation of this seat: contracts of the functions that the statement reaches. -/
namespace Go.Proofs.Ytpdcjkiejglaiaa.Q
open Go.RowKit Go.Proofs.YtpdcjkiejglaiaaW.PrintWords Go.Proofs.YtpdcjkiejglaiaaW.PrintLast Go.Proofs.YtpdcjkiejglaiaaW.PrintMore
attribute [local go_sem] max2_int min2_int max_two min_two max_three min_three max_four min_four   -- for this text's walks alone
set_option linter.unusedVariables false
set_option linter.unusedSimpArgs false

/-! ### spec_miGood: function 34 -/
def spec_miGood.l0 : Nat → ByteArray → Int → Option (Bool)
  | 0, _, _ => none
  | k + 1, x0, x3 => if x3 < (x0.size : Int) then (if 0 ≤ x3 then (if (bt x0 x3) < 48 then (some false) else (if (bt x0 x3) > 57 then (some false) else (spec_miGood.l0 k x0 (wrap64 (x3 + 1))))) else (none)) else (some true)
def spec_miGood.f (k : Nat) (a0 : ByteArray) : Option (Bool) := (spec_l1In.f (a0.size : Int) 1 9).bind fun t101 => (if t101 = true then (spec_miGood.l0 k a0 0) else (some false))
theorem spec_miGood.mono_l : ∀ k, (∀ y0 y1, LeO (spec_miGood.l0 k y0 y1) (spec_miGood.l0 (k + 1) y0 y1))
  | 0 => fun _ _ r h => by simp [spec_miGood.l0] at h
  | k + 1 => by
    have ih0 := spec_miGood.mono_l k
    · intro y0 y1
      unfold spec_miGood.l0
      repeat' first
      | (with_reducible exact ih0 _ _)
      | (with_reducible exact LeO.refl _)
      | (with_reducible exact LeO.none _)
      | (with_reducible refine LeO.ite ?_ ?_)
      | (with_reducible refine LeO.bind ?_ (fun _ => ?_))
      | exact ih0 _ _
      | exact LeO.none _
      | refine LeO.ite ?_ ?_
      | refine LeO.bind ?_ (fun _ => ?_)
theorem spec_miGood.mono : ∀ a0 k, LeO (spec_miGood.f k a0) (spec_miGood.f (k + 1) a0) := by
  intro a0 k
  have ih0 := spec_miGood.mono_l k
  unfold spec_miGood.f
  repeat' first
      | (with_reducible exact ih0 _ _)
      | (with_reducible exact LeO.refl _)
      | (with_reducible exact LeO.none _)
      | (with_reducible refine LeO.ite ?_ ?_)
      | (with_reducible refine LeO.bind ?_ (fun _ => ?_))
      | exact ih0 _ _
      | exact LeO.none _
      | refine LeO.ite ?_ ?_
      | refine LeO.bind ?_ (fun _ => ?_)
set_option maxHeartbeats 8000000 in
set_option maxRecDepth 100000 in
theorem spec_miGood.calls (k : Nat) (a0 : ByteArray) (r : Bool) (w : World) (h : spec_miGood.f k a0 = some r) :
    Calls Try.prog 34 #[.string a0] w fun e w' => e = .returned (.bool r) ∧ Drawn0 w w' := by
  have H : ((spec_l1In.f (a0.size : Int) 1 9).bind fun t101 => (if t101 = true then (spec_miGood.l0 k a0 0) else (some false))) = some r := h
  clear h
  replace H := Option.bind_eq_some_iff.mp H
  obtain ⟨t101, A20, H⟩ := H
  replace H : (if t101 = true then (spec_miGood.l0 k a0 0) else (some false)) = some r := H
  have A2 := Aside0.mk A20
  clear A20
  by_cases c3 : t101 = true
  · subst c3
    have H1 : (spec_miGood.l0 k a0 0) = some r := by rw [if_pos rfl] at H; exact H
    clear H
    have H := H1
    clear H1
    have H' := Aside0.mk H
    clear H
    go_enter Try.func34, Try.ntmps34
    go_wp2_with (first | ((with_reducible refine gate_callee (f := 46) rfl ?_); refine goesL_ (some 6) rfl rfl Try.func46 (by kernel_rfl) rfl #[.int .i64 (a0.size : Int), .int .i64 1, .int .i64 9] rfl (by (try simp only [List.map_toArray, List.map_cons, List.map_nil]); first | done | rfl | (simp only [List.length_drop, List.length_take]; rfl)) ?_; (with_reducible refine (spec_l1In.calls (a0.size : Int) 1 9 true _ A2.out).mono ?_); rintro e w' ⟨rfl, ⟨nd, rfl⟩⟩; refine ⟨_, rfl, ?_⟩))
    go_loopg [3] k (fun kq v3 w' => ∃ (x3_1 : Int), v3 = .int .i64 x3_1 ∧ Aside0 (spec_miGood.l0 kq a0 x3_1 = some r) ∧ Aside0 (kq ≤ k) ∧ Drawn0 w w')
    case atStart => exact ⟨(0), (by first | rfl | (simp; done) | (simp [*]; done)), H', ⟨Nat.le_refl _⟩, by repeat (first | exact Drawn0.refl _ | apply Drawn0.step)⟩
    case round =>
      clear H'
      try clear p2
      try clear c3
      obtain ⟨x3_1, rfl, HA, HK1, ⟨m1, rfl⟩⟩ := hrel
      cases gk with
      | zero => exact absurd HA.out (by simp [spec_miGood.l0])
      | succ k1 =>
        have H := HA.out
        clear HA
        simp only [spec_miGood.l0] at H
        by_cases c4 : x3_1 < (a0.size : Int)
        · rw [if_pos c4] at H
          have c4b0 : decide (x3_1 < (a0.size : Int)) = true := decide_eq_true c4
          clear c4
          by_cases c5 : 0 ≤ x3_1
          · rw [if_pos c5] at H
            have c5b0 : decide (0 ≤ x3_1) = true := decide_eq_true c5
            clear c5
            by_cases c7 : (bt a0 x3_1) < 48
            · rw [if_pos c7] at H
              have c7b0 : decide ((bt a0 x3_1) < 48) = true := decide_eq_true c7
              clear c7
              obtain rfl := Option.some.inj H
              have p6 : 0 ≤ (x3_1 : Int) := of_decide_eq_true (by first | (with_reducible assumption) | assumption)
              have q6 : x3_1 < (a0.size : Int) := of_decide_eq_true (by first | (with_reducible assumption) | assumption)
              have hx6 := bt_at a0 x3_1
              replace p6 := eq_true p6
              replace q6 := eq_true q6
              go_wp2
              go_ret
              exact ⟨by first | rfl | (simp; done) | (simp [*]; done), by repeat (first | exact Drawn0.refl _ | apply Drawn0.step)⟩
            · rw [if_neg c7] at H
              have c7b0 : decide ((bt a0 x3_1) < 48) = false := decide_eq_false c7
              clear c7
              by_cases c9 : (bt a0 x3_1) > 57
              · rw [if_pos c9] at H
                have c9b0 : decide (57 < (bt a0 x3_1)) = true := decide_eq_true c9
                clear c9
                obtain rfl := Option.some.inj H
                have p6 : 0 ≤ (x3_1 : Int) := of_decide_eq_true (by first | (with_reducible assumption) | assumption)
                have q6 : x3_1 < (a0.size : Int) := of_decide_eq_true (by first | (with_reducible assumption) | assumption)
                have hx6 := bt_at a0 x3_1
                replace p6 := eq_true p6
                replace q6 := eq_true q6
                have p8 : 0 ≤ (x3_1 : Int) := of_decide_eq_true (by first | (with_reducible assumption) | assumption)
                have q8 : x3_1 < (a0.size : Int) := of_decide_eq_true (by first | (with_reducible assumption) | assumption)
                have hx8 := bt_at a0 x3_1
                replace p8 := eq_true p8
                replace q8 := eq_true q8
                go_wp2
                go_ret
                exact ⟨by first | rfl | (simp; done) | (simp [*]; done), by repeat (first | exact Drawn0.refl _ | apply Drawn0.step)⟩
              · rw [if_neg c9] at H
                have c9b0 : decide (57 < (bt a0 x3_1)) = false := decide_eq_false c9
                clear c9
                have H' := Aside0.mk H
                clear H
                have p6 : 0 ≤ (x3_1 : Int) := of_decide_eq_true (by first | (with_reducible assumption) | assumption)
                have q6 : x3_1 < (a0.size : Int) := of_decide_eq_true (by first | (with_reducible assumption) | assumption)
                have hx6 := bt_at a0 x3_1
                replace p6 := eq_true p6
                replace q6 := eq_true q6
                have p8 : 0 ≤ (x3_1 : Int) := of_decide_eq_true (by first | (with_reducible assumption) | assumption)
                have q8 : x3_1 < (a0.size : Int) := of_decide_eq_true (by first | (with_reducible assumption) | assumption)
                have hx8 := bt_at a0 x3_1
                replace p8 := eq_true p8
                replace q8 := eq_true q8
                go_wp2
                go_roundg k1
                case measure => have := HK1.out; omega
                case rel => exact ⟨(wrap64 (x3_1 + 1)), (by first | rfl | (simp; done) | (simp [*]; done)), H', ⟨by have := HK1.out; omega⟩, by repeat (first | exact Drawn0.refl _ | apply Drawn0.step)⟩
          · rw [if_neg c5] at H
            exact absurd H (by simp)
        · rw [if_neg c4] at H
          have c4b0 : decide (x3_1 < (a0.size : Int)) = false := decide_eq_false c4
          clear c4
          obtain rfl := Option.some.inj H
          go_wp2
          go_ret
          exact ⟨by first | rfl | (simp; done) | (simp [*]; done), by repeat (first | exact Drawn0.refl _ | apply Drawn0.step)⟩
  · replace c3 := Bool.eq_false_iff.mpr c3
    subst c3
    have H1 : (some false) = some r := by rw [if_neg (show ¬ (false = true) by decide)] at H; exact H
    clear H
    have H := H1
    clear H1
    obtain rfl := Option.some.inj H
    go_enter Try.func34, Try.ntmps34
    go_wp2_with (first | ((with_reducible refine gate_callee (f := 46) rfl ?_); refine goesL_ (some 6) rfl rfl Try.func46 (by kernel_rfl) rfl #[.int .i64 (a0.size : Int), .int .i64 1, .int .i64 9] rfl (by (try simp only [List.map_toArray, List.map_cons, List.map_nil]); first | done | rfl | (simp only [List.length_drop, List.length_take]; rfl)) ?_; (with_reducible refine (spec_l1In.calls (a0.size : Int) 1 9 false _ A2.out).mono ?_); rintro e w' ⟨rfl, ⟨nd, rfl⟩⟩; refine ⟨_, rfl, ?_⟩))
    go_ret
    exact ⟨by first | rfl | (simp; done) | (simp [*]; done), by repeat (first | exact Drawn0.refl _ | apply Drawn0.step)⟩

end Go.Proofs.Ytpdcjkiejglaiaa.Q

/- Laid by a program of this session (wip/tools/own_print.py) over the translation of this seat: contracts of the functions that the statement reaches. -/
namespace Go.Proofs.Ytpdcjkiejglaiaa.Q
open Go.RowKit Go.Proofs.YtpdcjkiejglaiaaW.PrintWords Go.Proofs.YtpdcjkiejglaiaaW.PrintLast Go.Proofs.YtpdcjkiejglaiaaW.PrintMore
attribute [local go_sem] max2_int min2_int max_two min_two max_three min_three max_four min_four   -- for this text's walks alone
set_option linter.unusedVariables false
set_option linter.unusedSimpArgs false

/-! ### impl_IsReading: function 36 -/
def impl_IsReading.f (k : Nat) (a0 : ByteArray) : Option (Bool) := (impl_areDigits.f k a0 1 9).bind fun t101 => (some t101)
theorem impl_IsReading.mono : ∀ a0 k, LeO (impl_IsReading.f k a0) (impl_IsReading.f (k + 1) a0) := by
  intro a0 k
  unfold impl_IsReading.f
  repeat' first
      | (with_reducible exact impl_areDigits.mono _ _ _ _)
      | (with_reducible exact LeO.refl _)
      | (with_reducible exact LeO.none _)
      | (with_reducible refine LeO.ite ?_ ?_)
      | (with_reducible refine LeO.bind ?_ (fun _ => ?_))
      | exact impl_areDigits.mono _ _ _ _
      | exact LeO.none _
      | refine LeO.ite ?_ ?_
      | refine LeO.bind ?_ (fun _ => ?_)
set_option maxHeartbeats 8000000 in
set_option maxRecDepth 100000 in
theorem impl_IsReading.calls (k : Nat) (a0 : ByteArray) (r : Bool) (w : World) (h : impl_IsReading.f k a0 = some r) :
    Calls Try.prog 36 #[.string a0] w fun e w' => e = .returned (.bool r) ∧ Drawn0 w w' := by
  have H : ((impl_areDigits.f k a0 1 9).bind fun t101 => (some t101)) = some r := h
  clear h
  replace H := Option.bind_eq_some_iff.mp H
  obtain ⟨t101, A20, H⟩ := H
  replace H : (some t101) = some r := H
  have A2 := Aside0.mk A20
  clear A20
  obtain rfl := Option.some.inj H
  go_enter Try.func36, Try.ntmps36
  go_wp2_with (first | ((with_reducible refine gate_callee (f := 31) rfl ?_); refine goesL_ (some 4) rfl rfl Try.func31 (by kernel_rfl) rfl #[.string a0, .int .i64 1, .int .i64 9] rfl (by (try simp only [List.map_toArray, List.map_cons, List.map_nil]); first | done | rfl | (simp only [List.length_drop, List.length_take]; rfl)) ?_; (with_reducible refine (impl_areDigits.calls k a0 1 9 t101 _ A2.out).mono ?_); rintro e w' ⟨rfl, ⟨nd, rfl⟩⟩; refine ⟨_, rfl, ?_⟩))
  go_ret
  exact ⟨by first | rfl | (simp; done) | (simp [*]; done), by repeat (first | exact Drawn0.refl _ | apply Drawn0.step)⟩

end Go.Proofs.Ytpdcjkiejglaiaa.Q

/-
  Readings: both texts ask the same of a text: one to nine digits. And a lemma on loops that ask something of every place.
-/
namespace Go.Proofs.Ytpdcjkiejglaiaa.Q
open Go.RowKit Go.Proofs.YtpdcjkiejglaiaaW.PrintWords Go.Proofs.YtpdcjkiejglaiaaW.PrintLast Go.Proofs.YtpdcjkiejglaiaaW.PrintMore
set_option linter.unusedVariables false
set_option linter.unusedSimpArgs false

def allF (p : Nat → Bool) : Nat → Nat → Bool
  | 0, _ => true
  | d + 1, i => p i && allF p d (i + 1)
theorem allF_iff (p : Nat → Bool) : ∀ d i, allF p d i = true ↔ ∀ j, i ≤ j → j < i + d → p j = true
  | 0, i => by simp [allF]; intro j h1 h2; omega
  | d + 1, i => by
    simp only [allF, Bool.and_eq_true, allF_iff p d (i + 1)]
    constructor
    · rintro ⟨h1, h2⟩ j hj1 hj2
      by_cases e : j = i
      · rw [e]; exact h1
      · exact h2 j (by omega) (by omega)
    · intro h
      exact ⟨h i (by omega) (by omega), fun j h1 h2 => h j (by omega) (by omega)⟩
theorem Ev_all {l : Nat → Nat → Option Bool} {p : Nat → Bool} {n : Nat} {r : Bool} (stop : Ev (fun k => l k n) r)
    (yes : ∀ i, i < n → p i = true → ∀ q, Ev (fun k => l k (i + 1)) q → Ev (fun k => l k i) q) (no : ∀ i, i < n → p i = false → Ev (fun k => l k i) false) :
    ∀ d i, i + d = n → Ev (fun k => l k i) (allF p d i && r)
  | 0, i, h => by
    obtain rfl : i = n := by omega
    simpa [allF] using stop
  | d + 1, i, h => by
    have ih := Ev_all stop yes no d (i + 1) (by omega)
    simp only [allF]
    cases hp : p i with
    | true => simpa using yes i (by omega) hp _ ih
    | false => simpa using no i (by omega) hp

theorem Ev_all_from {l : Nat → Nat → Option Bool} {p : Nat → Bool} {n m : Nat} {r : Bool} (stop : Ev (fun k => l k n) r)
    (yes : ∀ i, m ≤ i → i < n → p i = true → ∀ q, Ev (fun k => l k (i + 1)) q → Ev (fun k => l k i) q) (no : ∀ i, m ≤ i → i < n → p i = false → Ev (fun k => l k i) false) :
    ∀ d i, m ≤ i → i + d = n → Ev (fun k => l k i) (allF p d i && r)
  | 0, i, _, h => by
    obtain rfl : i = n := by omega
    simpa [allF] using stop
  | d + 1, i, hm, h => by
    have ih := Ev_all_from stop yes no d (i + 1) (by omega) (by omega)
    simp only [allF]
    cases hp : p i with
    | true => simpa using yes i hm (by omega) hp _ ih
    | false => simpa using no i hm (by omega) hp

/-- are all bytes digits? -/
def digAt (s : ByteArray) (i : Nat) : Bool := decide (48 ≤ bt s i) && decide (bt s i ≤ 57)
def isDig (s : ByteArray) : Bool := allF (digAt s) s.size 0
theorem isDig_at {s : ByteArray} (h : isDig s = true) (i : Nat) (hi : i < s.size) : 48 ≤ bt s i ∧ bt s i ≤ 57 := by
  have := (allF_iff _ _ _).1 h i (by omega) (by omega)
  simpa [digAt] using this

theorem areDigits_ev (s : ByteArray) (lo hi : Int) (hs : s.size ≤ 140737488351232) :
    Ev (fun k => impl_areDigits.f k s lo hi) (isDig s && (decide (lo ≤ (s.size : Int)) && decide ((s.size : Int) ≤ hi))) := by
  have stop : Ev (fun k => impl_areDigits.l0 k s lo hi (s.size : Int) ((s.size : Nat) : Int)) (decide (lo ≤ (s.size : Int)) && decide ((s.size : Int) ≤ hi)) := by
    refine Ev.step (f := fun _ => some (decide (lo ≤ (s.size : Int)) && decide ((s.size : Int) ≤ hi))) (fun k => ?_) (Ev.now _)
    simp only [impl_areDigits.l0]
    rw [if_neg (by omega)]
    unfold impl_within.f
    by_cases h : lo ≤ (s.size : Int)
    · rw [if_pos h]; simp [h]
    · rw [if_neg h]; simp [h]
  refine Ev_all (l := fun k i => impl_areDigits.l0 k s lo hi (s.size : Int) (i : Int)) (p := digAt s) stop ?_ ?_ s.size 0 (by omega)
  · intro i hi' hp q hq
    refine Ev.step (fun k => ?_) hq
    simp only [digAt, Bool.and_eq_true, decide_eq_true_eq] at hp
    simp only [impl_areDigits.l0]
    rw [if_pos (by omega), if_pos (by omega), if_pos (by omega), if_neg (by omega), if_neg (by omega), wrap_id (by omega) (by omega)]
    rfl
  · intro i hi' hp
    refine Ev.step (f := fun _ => some false) (fun k => ?_) (Ev.now _)
    simp only [digAt, Bool.and_eq_false_iff, decide_eq_false_iff_not] at hp
    simp only [impl_areDigits.l0]
    rw [if_pos (by omega), if_pos (by omega), if_pos (by omega)]
    by_cases h : bt s (i : Int) < 48
    · rw [if_pos h]
    · rw [if_neg h, if_pos (by omega)]

def good (s : ByteArray) : Bool := isDig s && (decide ((1 : Int) ≤ (s.size : Int)) && decide ((s.size : Int) ≤ 9))
theorem good_at {s : ByteArray} (h : good s = true) : 1 ≤ s.size ∧ s.size ≤ 9 ∧ ∀ i : Nat, i < s.size → 48 ≤ bt s i ∧ bt s i ≤ 57 := by
  simp only [good, Bool.and_eq_true, decide_eq_true_eq] at h
  exact ⟨by omega, by omega, isDig_at h.1⟩
theorem IsReading_ev (s : ByteArray) (hs : s.size ≤ 140737488351232) : Ev (fun k => impl_IsReading.f k s) (good s) := by
  unfold impl_IsReading.f
  exact Ev.bind (areDigits_ev s 1 9 hs) (Ev.now _)
theorem miGood_ev (s : ByteArray) (hs : s.size ≤ 140737488351232) : Ev (fun k => spec_miGood.f k s) (good s) := by
  unfold spec_miGood.f
  have h1 : spec_l1In.f (s.size : Int) 1 9 = some (decide ((1 : Int) ≤ (s.size : Int)) && decide ((s.size : Int) ≤ 9)) := by
    unfold spec_l1In.f
    by_cases h : (s.size : Int) ≥ 1
    · rw [if_pos h]; simp [h]
    · rw [if_neg h]; simp; omega
  simp only [h1, Option.bind_some]
  by_cases h2 : (decide ((1 : Int) ≤ (s.size : Int)) && decide ((s.size : Int) ≤ 9)) = true
  · refine Ev.pos h2 ?_
    have stop : Ev (fun k => spec_miGood.l0 k s ((s.size : Nat) : Int)) true := by
      refine Ev.step (f := fun _ => some true) (fun k => ?_) (Ev.now _)
      simp only [spec_miGood.l0]
      rw [if_neg (by omega)]
    refine Ev.eq (Ev_all (l := fun k i => spec_miGood.l0 k s (i : Int)) (p := digAt s) stop ?_ ?_ s.size 0 (by omega)) (by simp [good, isDig, h2])
    · intro i hi' hp q hq
      refine Ev.step (fun k => ?_) hq
      simp only [digAt, Bool.and_eq_true, decide_eq_true_eq] at hp
      simp only [spec_miGood.l0]
      rw [if_pos (by omega), if_pos (by omega), if_neg (by omega), if_neg (by omega), wrap_id (by omega) (by omega)]
      rfl
    · intro i hi' hp
      refine Ev.step (f := fun _ => some false) (fun k => ?_) (Ev.now _)
      simp only [digAt, Bool.and_eq_false_iff, decide_eq_false_iff_not] at hp
      simp only [spec_miGood.l0]
      rw [if_pos (by omega), if_pos (by omega)]
      by_cases h : bt s (i : Int) < 48
      · rw [if_pos h]
      · rw [if_neg h, if_pos (by omega)]
  · refine Ev.neg h2 (Ev.eq (Ev.now _) ?_)
    simp only [good]
    cases hb : (decide ((1 : Int) ≤ (s.size : Int)) && decide ((s.size : Int) ≤ 9)) with
    | true => exact absurd hb h2
    | false => simp

end Go.Proofs.Ytpdcjkiejglaiaa.Q

/-
  The library contract of strings.IndexByte at this program: it returns the first place of the byte, or -1.
-/
namespace Go.Proofs
open Go.Shelf
def Try.lays137_ren : Go.Shelf.Ren := ⟨fun | 137 => 68 | 217 => 79 | 266 => 96 | n => n, fun | 9 => 9 | 5 => 5 | 3 => 3 | n => n, fun | n => n⟩
theorem Try.lays137 : Go.Proofs.Lays.n137 Try.prog Try.lays137_ren := {
  mixed := by kernel_rfl
  f137 := Try.func68.trans (congrArg some (by kernel_rfl))
  f217 := Try.func79.trans (congrArg some (by kernel_rfl))
  f266 := Try.func96.trans (congrArg some (by kernel_rfl))
  t3 := Try.underlying3
  a3 := Try.isAgg3
  z3 := Try.sizeOf3
  v3 := Try.zeroValue3
  t5 := Try.underlying5
  a5 := Try.isAgg5
  z5 := Try.sizeOf5
  v5 := Try.zeroValue5
  t9 := Try.underlying9
  a9 := Try.isAgg9
  z9 := Try.sizeOf9
  v9 := Try.zeroValue9 }
open Go.RowKit in
theorem Try.strings_IndexByte (s : ByteArray) (c : Int) (w : World) :
    Calls Try.prog 68 #[.string s, .int .u8 c] w fun e w' => e = .returned (.int .i64 (Lib.indexByte s.data.toList c.toNat.toUInt8)) ∧ w' = w := Any.strings_IndexByte Try.lays137 s c w
end Go.Proofs

/-
  'strings.IndexByte' in the form of the other contracts: it returns the first place of the byte in the text, or -1.
-/
namespace Go.Proofs.Ytpdcjkiejglaiaa.Q
open Go.RowKit Go.Proofs.YtpdcjkiejglaiaaW.PrintWords Go.Proofs.YtpdcjkiejglaiaaW.PrintLast Go.Proofs.YtpdcjkiejglaiaaW.PrintMore

def strings_IndexByte.f (a0 : ByteArray) (a1 : Int) : Option Int := some (Lib.indexByte a0.data.toList a1.toNat.toUInt8)
theorem strings_IndexByte.calls (a0 : ByteArray) (a1 : Int) (r : Int) (w : World) (h : strings_IndexByte.f a0 a1 = some r) :
    Calls Try.prog 68 #[.string a0, .int .u8 a1] w fun e w' => e = .returned (.int .i64 r) ∧ Drawn0 w w' := by
  obtain rfl := Option.some.inj h
  refine (Try.strings_IndexByte a0 a1 w).mono ?_
  rintro e w' ⟨rfl, rfl⟩
  exact ⟨rfl, Drawn0.refl _⟩

end Go.Proofs.Ytpdcjkiejglaiaa.Q

/- Laid by a program of this session (wip/tools/own_print.py) over the translation of this seat: contracts of the functions that the statement reaches. -/
namespace Go.Proofs.Ytpdcjkiejglaiaa.Q
open Go.RowKit Go.Proofs.YtpdcjkiejglaiaaW.PrintWords Go.Proofs.YtpdcjkiejglaiaaW.PrintLast Go.Proofs.YtpdcjkiejglaiaaW.PrintMore
attribute [local go_sem] max2_int min2_int max_two min_two max_three min_three max_four min_four   -- for this text's walks alone
set_option linter.unusedVariables false
set_option linter.unusedSimpArgs false

/-! ### impl_upside: function 67 -/
def impl_upside.j0 : Nat → Int → Int → Bool → Option (Int)
  | 0, _, _, _ => none
  | k + 1, x0, x3, x4 => if x4 = true then (some x0) else (if x3 = 54 then (some 57) else (if x3 = 57 then (some 54) else (some 0)))
def impl_upside.f (k : Nat) (a0 : Int) : Option (Int) := if a0 = 48 then (impl_upside.j0 k a0 a0 (a0 == 48)) else (if a0 = 49 then (impl_upside.j0 k a0 a0 (a0 == 49)) else (impl_upside.j0 k a0 a0 (a0 == 56)))
theorem impl_upside.mono_l : ∀ k, (∀ y0 y1 y2, LeO (impl_upside.j0 k y0 y1 y2) (impl_upside.j0 (k + 1) y0 y1 y2))
  | 0 => fun _ _ _ r h => by simp [impl_upside.j0] at h
  | k + 1 => by
    have ih0 := impl_upside.mono_l k
    · intro y0 y1 y2
      unfold impl_upside.j0
      repeat' first
      | (with_reducible exact ih0 _ _ _)
      | (with_reducible exact LeO.refl _)
      | (with_reducible exact LeO.none _)
      | (with_reducible refine LeO.ite ?_ ?_)
      | (with_reducible refine LeO.bind ?_ (fun _ => ?_))
      | exact ih0 _ _ _
      | exact LeO.none _
      | refine LeO.ite ?_ ?_
      | refine LeO.bind ?_ (fun _ => ?_)
theorem impl_upside.mono : ∀ a0 k, LeO (impl_upside.f k a0) (impl_upside.f (k + 1) a0) := by
  intro a0 k
  have ih0 := impl_upside.mono_l k
  unfold impl_upside.f
  repeat' first
      | (with_reducible exact ih0 _ _ _)
      | (with_reducible exact LeO.refl _)
      | (with_reducible exact LeO.none _)
      | (with_reducible refine LeO.ite ?_ ?_)
      | (with_reducible refine LeO.bind ?_ (fun _ => ?_))
      | exact ih0 _ _ _
      | exact LeO.none _
      | refine LeO.ite ?_ ?_
      | refine LeO.bind ?_ (fun _ => ?_)
set_option maxHeartbeats 8000000 in
set_option maxRecDepth 100000 in
theorem impl_upside.calls (k : Nat) (a0 : Int) (r : Int) (w : World) (h : impl_upside.f k a0 = some r) :
    Calls Try.prog 67 #[.int .u8 a0] w fun e w' => e = .returned (.int .u8 r) ∧ Drawn0 w w' := by
  have H : (if a0 = 48 then (impl_upside.j0 k a0 a0 (a0 == 48)) else (if a0 = 49 then (impl_upside.j0 k a0 a0 (a0 == 49)) else (impl_upside.j0 k a0 a0 (a0 == 56)))) = some r := h
  clear h
  have HC2 := Aside0.mk H
  clear H
  go_enter Try.func67, Try.ntmps67
  go_upto_if 4 with (fail)
  go_cut [4] (fun v4 wc => ∃ (kq : Nat) (x4_1 : Bool), v4 = .bool x4_1 ∧ Aside0 (impl_upside.j0 kq a0 a0 x4_1 = some r) ∧ Aside0 (kq ≤ k) ∧ Drawn0 w wc)
  case first =>
    have H := HC2.out
    clear HC2
    by_cases c3 : a0 = 48
    · rw [if_pos c3] at H
      have c3b0 : (a0 == 48) = true := beq_iff_eq.mpr c3
      have c3b1 : (a0 != 48) = false := bne_eq_false_iff_eq.mpr c3
      clear c3
      (first | rw [c3b0] | (simp only [i64_w, i32_w]; rw [c3b0]) | skip)
      have H' := Aside0.mk H
      clear H
      go_wp2
      go_meet
      case rel => exact ⟨_, ((a0 == 48)), (by first | rfl | (simp; done) | (simp [*]; done)), H', ⟨by first | omega | exact Nat.le_refl _⟩, by repeat (first | exact Drawn0.refl _ | apply Drawn0.step)⟩
    · rw [if_neg c3] at H
      have c3b0 : (a0 == 48) = false := beq_eq_false_iff_ne.mpr c3
      have c3b1 : (a0 != 48) = true := bne_iff_ne.mpr c3
      (first | rw [c3b0] | (simp only [i64_w, i32_w]; rw [c3b0]) | skip)
      by_cases c4 : a0 = 49
      · rw [if_pos c4] at H
        have c4b0 : (a0 == 49) = true := beq_iff_eq.mpr c4
        have c4b1 : (a0 != 49) = false := bne_eq_false_iff_eq.mpr c4
        clear c4
        have H' := Aside0.mk H
        clear H
        go_wp2
        go_meet
        case rel => exact ⟨_, ((a0 == 49)), (by first | rfl | (simp; done) | (simp [*]; done)), H', ⟨by first | omega | exact Nat.le_refl _⟩, by repeat (first | exact Drawn0.refl _ | apply Drawn0.step)⟩
      · rw [if_neg c4] at H
        have c4b0 : (a0 == 49) = false := beq_eq_false_iff_ne.mpr c4
        have c4b1 : (a0 != 49) = true := bne_iff_ne.mpr c4
        have H' := Aside0.mk H
        clear H
        go_wp2
        go_meet
        case rel => exact ⟨_, ((a0 == 56)), (by first | rfl | (simp; done) | (simp [*]; done)), H', ⟨by first | omega | exact Nat.le_refl _⟩, by repeat (first | exact Drawn0.refl _ | apply Drawn0.step)⟩
  case rest =>
    clear HC2
    try clear p2
    try clear c3
    try clear c3b0
    try clear c3b1
    try clear c4
    try clear c4b0
    try clear c4b1
    obtain ⟨kq, x4_1, rfl, HA, HJ1, ⟨mc1, rfl⟩⟩ := hcut
    cases kq with
    | zero => exact absurd HA.out (by simp [impl_upside.j0])
    | succ kj1 =>
      have H := HA.out
      clear HA
      simp only [impl_upside.j0] at H
      by_cases c5 : x4_1 = true
      · subst c5
        have H1 : (some a0) = some r := by rw [if_pos rfl] at H; exact H
        clear H
        have H := H1
        clear H1
        obtain rfl := Option.some.inj H
        go_wp2
        go_ret
        exact ⟨by first | rfl | (simp; done) | (simp [*]; done), by repeat (first | exact Drawn0.refl _ | apply Drawn0.step)⟩
      · replace c5 := Bool.eq_false_iff.mpr c5
        subst c5
        have H1 : (if a0 = 54 then (some 57) else (if a0 = 57 then (some 54) else (some 0))) = some r := by rw [if_neg (show ¬ (false = true) by decide)] at H; exact H
        clear H
        have H := H1
        clear H1
        by_cases c6 : a0 = 54
        · rw [if_pos c6] at H
          have c6b0 : (a0 == 54) = true := beq_iff_eq.mpr c6
          have c6b1 : (a0 != 54) = false := bne_eq_false_iff_eq.mpr c6
          clear c6
          obtain rfl := Option.some.inj H
          go_wp2
          go_ret
          exact ⟨by first | rfl | (simp; done) | (simp [*]; done), by repeat (first | exact Drawn0.refl _ | apply Drawn0.step)⟩
        · rw [if_neg c6] at H
          have c6b0 : (a0 == 54) = false := beq_eq_false_iff_ne.mpr c6
          have c6b1 : (a0 != 54) = true := bne_iff_ne.mpr c6
          by_cases c7 : a0 = 57
          · rw [if_pos c7] at H
            have c7b0 : (a0 == 57) = true := beq_iff_eq.mpr c7
            have c7b1 : (a0 != 57) = false := bne_eq_false_iff_eq.mpr c7
            clear c7
            obtain rfl := Option.some.inj H
            go_wp2
            go_ret
            exact ⟨by first | rfl | (simp; done) | (simp [*]; done), by repeat (first | exact Drawn0.refl _ | apply Drawn0.step)⟩
          · rw [if_neg c7] at H
            have c7b0 : (a0 == 57) = false := beq_eq_false_iff_ne.mpr c7
            have c7b1 : (a0 != 57) = true := bne_iff_ne.mpr c7
            obtain rfl := Option.some.inj H
            go_wp2
            go_ret
            exact ⟨by first | rfl | (simp; done) | (simp [*]; done), by repeat (first | exact Drawn0.refl _ | apply Drawn0.step)⟩

end Go.Proofs.Ytpdcjkiejglaiaa.Q

/-
  'may' (can a text begin a reading of a kind with so many digits): what it returns, kind by kind. Laid by a program of this session; one arm (upside down, two calls in one statement) written by hand.
-/
namespace Go.Proofs.Ytpdcjkiejglaiaa.Q
open Go.RowKit Go.Proofs.YtpdcjkiejglaiaaW.PrintWords Go.Proofs.YtpdcjkiejglaiaaW.PrintLast Go.Proofs.YtpdcjkiejglaiaaW.PrintMore
attribute [local go_sem] max2_int min2_int max_two min_two max_three min_three max_four min_four   -- for this text's walks alone
set_option linter.unusedVariables false
set_option linter.unusedSimpArgs false

/-! ### impl_may: function 61 -/
def impl_may.f (k : Nat) (a0 : Int) (a1 : ByteArray) (a2 : Int) : Option (Bool) := if 0 ≤ (wrap64 ((a1.size : Int) - 1)) then (if (wrap64 ((a1.size : Int) - 1)) < (a1.size : Int) then (if a0 = 97 then (if 0 < (a1.size : Int) then (some ((bt a1 (wrap64 ((a1.size : Int) - 1))) == (bt a1 0))) else (none)) else (if a0 = 109 then (if (wrap64 ((wrap64 (a2 - 1)) - (wrap64 ((a1.size : Int) - 1)))) > (wrap64 ((a1.size : Int) - 1)) then (some true) else (if 0 ≤ (wrap64 ((wrap64 (a2 - 1)) - (wrap64 ((a1.size : Int) - 1)))) then (if (wrap64 ((wrap64 (a2 - 1)) - (wrap64 ((a1.size : Int) - 1)))) < (a1.size : Int) then (some ((bt a1 (wrap64 ((wrap64 (a2 - 1)) - (wrap64 ((a1.size : Int) - 1))))) == (bt a1 (wrap64 ((a1.size : Int) - 1))))) else (none)) else (none))) else (if a0 = 117 then ((impl_upside.f k (bt a1 (wrap64 ((a1.size : Int) - 1)))).bind fun t179 => (if t179 = 0 then (some false) else (if (wrap64 ((wrap64 (a2 - 1)) - (wrap64 ((a1.size : Int) - 1)))) > (wrap64 ((a1.size : Int) - 1)) then (some true) else (if 0 ≤ (wrap64 ((wrap64 (a2 - 1)) - (wrap64 ((a1.size : Int) - 1)))) then (if (wrap64 ((wrap64 (a2 - 1)) - (wrap64 ((a1.size : Int) - 1)))) < (a1.size : Int) then ((impl_upside.f k (bt a1 (wrap64 ((a1.size : Int) - 1)))).bind fun t180 => (some ((bt a1 (wrap64 ((wrap64 (a2 - 1)) - (wrap64 ((a1.size : Int) - 1))))) == t180))) else (none)) else (none))))) else (if a0 = 114 then (if (wrap64 ((a1.size : Int) - 1)) = 0 then (some (decide ((wrap64 ((((bt a1 (wrap64 ((a1.size : Int) - 1))) - 48) % 256) + (wrap64 (a2 - (a1.size : Int))))) ≤ 9))) else (if 0 ≤ (wrap64 ((wrap64 ((a1.size : Int) - 1)) - 1)) then (if (wrap64 ((wrap64 ((a1.size : Int) - 1)) - 1)) < (a1.size : Int) then (if (bt a1 (wrap64 ((wrap64 ((a1.size : Int) - 1)) - 1))) < (bt a1 (wrap64 ((a1.size : Int) - 1))) then (some (decide ((wrap64 ((((bt a1 (wrap64 ((a1.size : Int) - 1))) - 48) % 256) + (wrap64 (a2 - (a1.size : Int))))) ≤ 9))) else (some false)) else (none)) else (none))) else (if a0 = 102 then (if (wrap64 ((a1.size : Int) - 1)) = 0 then (some (decide ((((bt a1 (wrap64 ((a1.size : Int) - 1))) - 48) % 256) ≥ (wrap64 (a2 - (a1.size : Int)))))) else (if 0 ≤ (wrap64 ((wrap64 ((a1.size : Int) - 1)) - 1)) then (if (wrap64 ((wrap64 ((a1.size : Int) - 1)) - 1)) < (a1.size : Int) then (if (bt a1 (wrap64 ((wrap64 ((a1.size : Int) - 1)) - 1))) > (bt a1 (wrap64 ((a1.size : Int) - 1))) then (some (decide ((((bt a1 (wrap64 ((a1.size : Int) - 1))) - 48) % 256) ≥ (wrap64 (a2 - (a1.size : Int)))))) else (some false)) else (none)) else (none))) else (if (wrap64 ((a1.size : Int) - 1)) ≤ (a1.size : Int) then ((strings_IndexByte.f (a1.extract 0 ((wrap64 ((a1.size : Int) - 1)) : Int).toNat) (bt a1 (wrap64 ((a1.size : Int) - 1)))).bind fun t181 => (some (decide (t181 < 0)))) else (none))))))) else (none)) else (none)
theorem impl_may.mono : ∀ a0 a1 a2 k, LeO (impl_may.f k a0 a1 a2) (impl_may.f (k + 1) a0 a1 a2) := by
  intro a0 a1 a2 k
  unfold impl_may.f
  repeat' first
      | (with_reducible exact impl_upside.mono _ _)
      | (with_reducible exact LeO.refl _)
      | (with_reducible exact LeO.none _)
      | (with_reducible refine LeO.ite ?_ ?_)
      | (with_reducible refine LeO.bind ?_ (fun _ => ?_))
      | exact impl_upside.mono _ _
      | exact LeO.none _
      | refine LeO.ite ?_ ?_
      | refine LeO.bind ?_ (fun _ => ?_)
set_option maxHeartbeats 8000000 in
set_option maxRecDepth 100000 in
theorem impl_may.calls (k : Nat) (a0 : Int) (a1 : ByteArray) (a2 : Int) (r : Bool) (w : World) (h : impl_may.f k a0 a1 a2 = some r) :
    Calls Try.prog 61 #[.int .u8 a0, .string a1, .int .i64 a2] w fun e w' => e = .returned (.bool r) ∧ Drawn0 w w' := by
  have H : (if 0 ≤ (wrap64 ((a1.size : Int) - 1)) then (if (wrap64 ((a1.size : Int) - 1)) < (a1.size : Int) then (if a0 = 97 then (if 0 < (a1.size : Int) then (some ((bt a1 (wrap64 ((a1.size : Int) - 1))) == (bt a1 0))) else (none)) else (if a0 = 109 then (if (wrap64 ((wrap64 (a2 - 1)) - (wrap64 ((a1.size : Int) - 1)))) > (wrap64 ((a1.size : Int) - 1)) then (some true) else (if 0 ≤ (wrap64 ((wrap64 (a2 - 1)) - (wrap64 ((a1.size : Int) - 1)))) then (if (wrap64 ((wrap64 (a2 - 1)) - (wrap64 ((a1.size : Int) - 1)))) < (a1.size : Int) then (some ((bt a1 (wrap64 ((wrap64 (a2 - 1)) - (wrap64 ((a1.size : Int) - 1))))) == (bt a1 (wrap64 ((a1.size : Int) - 1))))) else (none)) else (none))) else (if a0 = 117 then ((impl_upside.f k (bt a1 (wrap64 ((a1.size : Int) - 1)))).bind fun t179 => (if t179 = 0 then (some false) else (if (wrap64 ((wrap64 (a2 - 1)) - (wrap64 ((a1.size : Int) - 1)))) > (wrap64 ((a1.size : Int) - 1)) then (some true) else (if 0 ≤ (wrap64 ((wrap64 (a2 - 1)) - (wrap64 ((a1.size : Int) - 1)))) then (if (wrap64 ((wrap64 (a2 - 1)) - (wrap64 ((a1.size : Int) - 1)))) < (a1.size : Int) then ((impl_upside.f k (bt a1 (wrap64 ((a1.size : Int) - 1)))).bind fun t180 => (some ((bt a1 (wrap64 ((wrap64 (a2 - 1)) - (wrap64 ((a1.size : Int) - 1))))) == t180))) else (none)) else (none))))) else (if a0 = 114 then (if (wrap64 ((a1.size : Int) - 1)) = 0 then (some (decide ((wrap64 ((((bt a1 (wrap64 ((a1.size : Int) - 1))) - 48) % 256) + (wrap64 (a2 - (a1.size : Int))))) ≤ 9))) else (if 0 ≤ (wrap64 ((wrap64 ((a1.size : Int) - 1)) - 1)) then (if (wrap64 ((wrap64 ((a1.size : Int) - 1)) - 1)) < (a1.size : Int) then (if (bt a1 (wrap64 ((wrap64 ((a1.size : Int) - 1)) - 1))) < (bt a1 (wrap64 ((a1.size : Int) - 1))) then (some (decide ((wrap64 ((((bt a1 (wrap64 ((a1.size : Int) - 1))) - 48) % 256) + (wrap64 (a2 - (a1.size : Int))))) ≤ 9))) else (some false)) else (none)) else (none))) else (if a0 = 102 then (if (wrap64 ((a1.size : Int) - 1)) = 0 then (some (decide ((((bt a1 (wrap64 ((a1.size : Int) - 1))) - 48) % 256) ≥ (wrap64 (a2 - (a1.size : Int)))))) else (if 0 ≤ (wrap64 ((wrap64 ((a1.size : Int) - 1)) - 1)) then (if (wrap64 ((wrap64 ((a1.size : Int) - 1)) - 1)) < (a1.size : Int) then (if (bt a1 (wrap64 ((wrap64 ((a1.size : Int) - 1)) - 1))) > (bt a1 (wrap64 ((a1.size : Int) - 1))) then (some (decide ((((bt a1 (wrap64 ((a1.size : Int) - 1))) - 48) % 256) ≥ (wrap64 (a2 - (a1.size : Int)))))) else (some false)) else (none)) else (none))) else (if (wrap64 ((a1.size : Int) - 1)) ≤ (a1.size : Int) then ((strings_IndexByte.f (a1.extract 0 ((wrap64 ((a1.size : Int) - 1)) : Int).toNat) (bt a1 (wrap64 ((a1.size : Int) - 1)))).bind fun t181 => (some (decide (t181 < 0)))) else (none))))))) else (none)) else (none)) = some r := h
  clear h
  obtain ⟨ji4, hji4⟩ : ∃ j_ : Int, (wrap64 ((a1.size : Int) - 1)) = j_ := ⟨_, rfl⟩
  replace H : (if 0 ≤ (ji4) then (if (ji4) < (a1.size : Int) then (if a0 = 97 then (if 0 < (a1.size : Int) then (some ((bt a1 (ji4)) == (bt a1 0))) else (none)) else (if a0 = 109 then (if (wrap64 ((wrap64 (a2 - 1)) - (ji4))) > (ji4) then (some true) else (if 0 ≤ (wrap64 ((wrap64 (a2 - 1)) - (ji4))) then (if (wrap64 ((wrap64 (a2 - 1)) - (ji4))) < (a1.size : Int) then (some ((bt a1 (wrap64 ((wrap64 (a2 - 1)) - (ji4)))) == (bt a1 (ji4)))) else (none)) else (none))) else (if a0 = 117 then ((impl_upside.f k (bt a1 (ji4))).bind fun t179 => (if t179 = 0 then (some false) else (if (wrap64 ((wrap64 (a2 - 1)) - (ji4))) > (ji4) then (some true) else (if 0 ≤ (wrap64 ((wrap64 (a2 - 1)) - (ji4))) then (if (wrap64 ((wrap64 (a2 - 1)) - (ji4))) < (a1.size : Int) then ((impl_upside.f k (bt a1 (ji4))).bind fun t180 => (some ((bt a1 (wrap64 ((wrap64 (a2 - 1)) - (ji4)))) == t180))) else (none)) else (none))))) else (if a0 = 114 then (if (ji4) = 0 then (some (decide ((wrap64 ((((bt a1 (ji4)) - 48) % 256) + (wrap64 (a2 - (a1.size : Int))))) ≤ 9))) else (if 0 ≤ (wrap64 ((ji4) - 1)) then (if (wrap64 ((ji4) - 1)) < (a1.size : Int) then (if (bt a1 (wrap64 ((ji4) - 1))) < (bt a1 (ji4)) then (some (decide ((wrap64 ((((bt a1 (ji4)) - 48) % 256) + (wrap64 (a2 - (a1.size : Int))))) ≤ 9))) else (some false)) else (none)) else (none))) else (if a0 = 102 then (if (ji4) = 0 then (some (decide ((((bt a1 (ji4)) - 48) % 256) ≥ (wrap64 (a2 - (a1.size : Int)))))) else (if 0 ≤ (wrap64 ((ji4) - 1)) then (if (wrap64 ((ji4) - 1)) < (a1.size : Int) then (if (bt a1 (wrap64 ((ji4) - 1))) > (bt a1 (ji4)) then (some (decide ((((bt a1 (ji4)) - 48) % 256) ≥ (wrap64 (a2 - (a1.size : Int)))))) else (some false)) else (none)) else (none))) else (if (ji4) ≤ (a1.size : Int) then ((strings_IndexByte.f (a1.extract 0 ((ji4) : Int).toNat) (bt a1 (ji4))).bind fun t181 => (some (decide (t181 < 0)))) else (none))))))) else (none)) else (none)) = some r := by first | (rw [hji4] at H; exact H) | (simp only [hji4] at H ⊢; exact H)
  have hji4w : (IntKind.i64.wrap ((a1.size : Int) - 1)) = ji4 := (i64_w _).trans hji4
  by_cases c5 : 0 ≤ (ji4)
  · rw [if_pos c5] at H
    have c5b0 : decide (0 ≤ (ji4)) = true := decide_eq_true c5
    clear c5
    by_cases c6 : (ji4) < (a1.size : Int)
    · rw [if_pos c6] at H
      have c6b0 : decide ((ji4) < (a1.size : Int)) = true := decide_eq_true c6
      clear c6
      by_cases c8 : a0 = 97
      · rw [if_pos c8] at H
        have c8b0 : (a0 == 97) = true := beq_iff_eq.mpr c8
        have c8b1 : (a0 != 97) = false := bne_eq_false_iff_eq.mpr c8
        clear c8
        by_cases c10 : 0 < (a1.size : Int)
        · rw [if_pos c10] at H
          have c10b0 : decide (0 < (a1.size : Int)) = true := decide_eq_true c10
          have c10b1 : decide (0 < a1.size) = true := decide_eq_true (by omega)
          clear c10
          obtain rfl := Option.some.inj H
          have p7 : 0 ≤ ((ji4) : Int) := of_decide_eq_true (by first | (with_reducible assumption) | assumption)
          have q7 : (ji4) < (a1.size : Int) := of_decide_eq_true (by first | (with_reducible assumption) | assumption)
          have hx7 := bt_at a1 (ji4)
          replace p7 := eq_true p7
          replace q7 := eq_true q7
          have p9 : 0 ≤ ((ji4) : Int) := of_decide_eq_true (by first | (with_reducible assumption) | assumption)
          have q9 : (ji4) < (a1.size : Int) := of_decide_eq_true (by first | (with_reducible assumption) | assumption)
          have hx9 := bt_at a1 (ji4)
          replace p9 := eq_true p9
          replace q9 := eq_true q9
          have p11 : 0 ≤ (0 : Int) := (by omega)
          have q11 : 0 < a1.size := (by have : (0 : Int) < (a1.size : Int) := of_decide_eq_true (by first | (with_reducible assumption) | assumption); omega)
          have hx11 : ∀ h : 0 < a1.size, ((a1[0]'h).toNat : Int) = bt a1 0 := bt_at a1 0
          clear p11
          have qi11 : (0 < (a1.size : Int)) = True := eq_true (of_decide_eq_true (by first | (with_reducible assumption) | assumption))
          replace q11 := eq_true q11
          go_enter Try.func61, Try.ntmps61
          go_wp2
          repeat (go_quiet (fail); try go_wp2)
          go_ret
          exact ⟨by first | rfl | (simp; done) | (simp only [← hji4] <;> (first | rfl | simp)) | (simp [*]; done), by repeat (first | exact Drawn0.refl _ | apply Drawn0.step)⟩
        · rw [if_neg c10] at H
          exact absurd H (by simp)
      · rw [if_neg c8] at H
        have c8b0 : (a0 == 97) = false := beq_eq_false_iff_ne.mpr c8
        have c8b1 : (a0 != 97) = true := bne_iff_ne.mpr c8
        by_cases c12 : a0 = 109
        · rw [if_pos c12] at H
          have c12b0 : (a0 == 109) = true := beq_iff_eq.mpr c12
          have c12b1 : (a0 != 109) = false := bne_eq_false_iff_eq.mpr c12
          clear c12
          by_cases c13 : (wrap64 ((wrap64 (a2 - 1)) - (ji4))) > (ji4)
          · rw [if_pos c13] at H
            have c13b0 : decide ((ji4) < (wrap64 ((wrap64 (a2 - 1)) - (ji4)))) = true := decide_eq_true c13
            clear c13
            obtain rfl := Option.some.inj H
            have p7 : 0 ≤ ((ji4) : Int) := of_decide_eq_true (by first | (with_reducible assumption) | assumption)
            have q7 : (ji4) < (a1.size : Int) := of_decide_eq_true (by first | (with_reducible assumption) | assumption)
            have hx7 := bt_at a1 (ji4)
            replace p7 := eq_true p7
            replace q7 := eq_true q7
            go_enter Try.func61, Try.ntmps61
            go_wp2
            repeat (go_quiet (fail); try go_wp2)
            go_ret
            exact ⟨by first | rfl | (simp; done) | (simp only [← hji4] <;> (first | rfl | simp)) | (simp [*]; done), by repeat (first | exact Drawn0.refl _ | apply Drawn0.step)⟩
          · rw [if_neg c13] at H
            have c13b0 : decide ((ji4) < (wrap64 ((wrap64 (a2 - 1)) - (ji4)))) = false := decide_eq_false c13
            clear c13
            obtain ⟨ji14, hji14⟩ : ∃ j_ : Int, (wrap64 ((wrap64 (a2 - 1)) - (ji4))) = j_ := ⟨_, rfl⟩
            replace H : (if 0 ≤ (ji14) then (if (ji14) < (a1.size : Int) then (some ((bt a1 (ji14)) == (bt a1 (ji4)))) else (none)) else (none)) = some r := by first | (rw [hji14] at H; exact H) | (simp only [hji14] at H ⊢; exact H)
            (try rw [hji14] at c13b0)
            have hji14w : (IntKind.i64.wrap ((wrap64 (a2 - 1)) - (ji4))) = ji14 := (i64_w _).trans hji14
            by_cases c15 : 0 ≤ (ji14)
            · rw [if_pos c15] at H
              have c15b0 : decide (0 ≤ (ji14)) = true := decide_eq_true c15
              clear c15
              by_cases c16 : (ji14) < (a1.size : Int)
              · rw [if_pos c16] at H
                have c16b0 : decide ((ji14) < (a1.size : Int)) = true := decide_eq_true c16
                clear c16
                obtain rfl := Option.some.inj H
                have p7 : 0 ≤ ((ji4) : Int) := of_decide_eq_true (by first | (with_reducible assumption) | assumption)
                have q7 : (ji4) < (a1.size : Int) := of_decide_eq_true (by first | (with_reducible assumption) | assumption)
                have hx7 := bt_at a1 (ji4)
                replace p7 := eq_true p7
                replace q7 := eq_true q7
                have p17 : 0 ≤ ((ji14) : Int) := of_decide_eq_true (by first | (with_reducible assumption) | assumption)
                have q17 : (ji14) < (a1.size : Int) := of_decide_eq_true (by first | (with_reducible assumption) | assumption)
                have hx17 := bt_at a1 (ji14)
                replace p17 := eq_true p17
                replace q17 := eq_true q17
                have p18 : 0 ≤ ((ji4) : Int) := of_decide_eq_true (by first | (with_reducible assumption) | assumption)
                have q18 : (ji4) < (a1.size : Int) := of_decide_eq_true (by first | (with_reducible assumption) | assumption)
                have hx18 := bt_at a1 (ji4)
                replace p18 := eq_true p18
                replace q18 := eq_true q18
                go_enter Try.func61, Try.ntmps61
                go_wp2
                repeat (go_quiet (fail); try go_wp2)
                go_ret
                exact ⟨by first | rfl | (simp; done) | (simp only [← hji4, ← hji14] <;> (first | rfl | simp)) | (simp [*]; done), by repeat (first | exact Drawn0.refl _ | apply Drawn0.step)⟩
              · rw [if_neg c16] at H
                exact absurd H (by simp)
            · rw [if_neg c15] at H
              exact absurd H (by simp)
        · rw [if_neg c12] at H
          have c12b0 : (a0 == 109) = false := beq_eq_false_iff_ne.mpr c12
          have c12b1 : (a0 != 109) = true := bne_iff_ne.mpr c12
          by_cases c19 : a0 = 117
          · rw [if_pos c19] at H
            have c19b0 : (a0 == 117) = true := beq_iff_eq.mpr c19
            have c19b1 : (a0 != 117) = false := bne_eq_false_iff_eq.mpr c19
            clear c19
            replace H := Option.bind_eq_some_iff.mp H
            obtain ⟨t179, A210, H⟩ := H
            replace H : (if t179 = 0 then (some false) else (if (wrap64 ((wrap64 (a2 - 1)) - (ji4))) > (ji4) then (some true) else (if 0 ≤ (wrap64 ((wrap64 (a2 - 1)) - (ji4))) then (if (wrap64 ((wrap64 (a2 - 1)) - (ji4))) < (a1.size : Int) then ((impl_upside.f k (bt a1 (ji4))).bind fun t180 => (some ((bt a1 (wrap64 ((wrap64 (a2 - 1)) - (ji4)))) == t180))) else (none)) else (none)))) = some r := H
            have A21 := Aside0.mk A210
            clear A210
            by_cases c22 : t179 = 0
            · rw [if_pos c22] at H
              have c22b0 : (t179 == 0) = true := beq_iff_eq.mpr c22
              have c22b1 : (t179 != 0) = false := bne_eq_false_iff_eq.mpr c22
              clear c22
              obtain rfl := Option.some.inj H
              have p7 : 0 ≤ ((ji4) : Int) := of_decide_eq_true (by first | (with_reducible assumption) | assumption)
              have q7 : (ji4) < (a1.size : Int) := of_decide_eq_true (by first | (with_reducible assumption) | assumption)
              have hx7 := bt_at a1 (ji4)
              replace p7 := eq_true p7
              replace q7 := eq_true q7
              have p20 : 0 ≤ ((ji4) : Int) := of_decide_eq_true (by first | (with_reducible assumption) | assumption)
              have q20 : (ji4) < (a1.size : Int) := of_decide_eq_true (by first | (with_reducible assumption) | assumption)
              have hx20 := bt_at a1 (ji4)
              replace p20 := eq_true p20
              replace q20 := eq_true q20
              go_enter Try.func61, Try.ntmps61
              go_wp2_with (first | (go_at_call 67; (with_reducible refine (impl_upside.calls k (bt a1 (ji4)) t179 _ A21.out).mono ?_); rintro e w' ⟨rfl, ⟨nd, rfl⟩⟩; (try first | exact ⟨rfl, _, World.drewN_drewN _ _ _⟩ | exact ⟨rfl, _, Eq.trans (World.drewN_drewN _ _ _) (congrArg (World.drewN _) (Nat.add_assoc _ _ _))⟩)))
              repeat (go_quiet (first | (go_at_call 67; (with_reducible refine (impl_upside.calls k (bt a1 (ji4)) t179 _ A21.out).mono ?_); rintro e w' ⟨rfl, ⟨nd, rfl⟩⟩; (try first | exact ⟨rfl, _, World.drewN_drewN _ _ _⟩ | exact ⟨rfl, _, Eq.trans (World.drewN_drewN _ _ _) (congrArg (World.drewN _) (Nat.add_assoc _ _ _))⟩))); try go_wp2_with (first | (go_at_call 67; (with_reducible refine (impl_upside.calls k (bt a1 (ji4)) t179 _ A21.out).mono ?_); rintro e w' ⟨rfl, ⟨nd, rfl⟩⟩; (try first | exact ⟨rfl, _, World.drewN_drewN _ _ _⟩ | exact ⟨rfl, _, Eq.trans (World.drewN_drewN _ _ _) (congrArg (World.drewN _) (Nat.add_assoc _ _ _))⟩))))
              go_ret
              exact ⟨by first | rfl | (simp; done) | (simp only [← hji4] <;> (first | rfl | simp)) | (simp [*]; done), by repeat (first | exact Drawn0.refl _ | apply Drawn0.step)⟩
            · rw [if_neg c22] at H
              have c22b0 : (t179 == 0) = false := beq_eq_false_iff_ne.mpr c22
              have c22b1 : (t179 != 0) = true := bne_iff_ne.mpr c22
              by_cases c23 : (wrap64 ((wrap64 (a2 - 1)) - (ji4))) > (ji4)
              · rw [if_pos c23] at H
                have c23b0 : decide ((ji4) < (wrap64 ((wrap64 (a2 - 1)) - (ji4)))) = true := decide_eq_true c23
                clear c23
                obtain rfl := Option.some.inj H
                have p7 : 0 ≤ ((ji4) : Int) := of_decide_eq_true (by first | (with_reducible assumption) | assumption)
                have q7 : (ji4) < (a1.size : Int) := of_decide_eq_true (by first | (with_reducible assumption) | assumption)
                have hx7 := bt_at a1 (ji4)
                replace p7 := eq_true p7
                replace q7 := eq_true q7
                have p20 : 0 ≤ ((ji4) : Int) := of_decide_eq_true (by first | (with_reducible assumption) | assumption)
                have q20 : (ji4) < (a1.size : Int) := of_decide_eq_true (by first | (with_reducible assumption) | assumption)
                have hx20 := bt_at a1 (ji4)
                replace p20 := eq_true p20
                replace q20 := eq_true q20
                go_enter Try.func61, Try.ntmps61
                go_wp2_with (first | (go_at_call 67; (with_reducible refine (impl_upside.calls k (bt a1 (ji4)) t179 _ A21.out).mono ?_); rintro e w' ⟨rfl, ⟨nd, rfl⟩⟩; (try first | exact ⟨rfl, _, World.drewN_drewN _ _ _⟩ | exact ⟨rfl, _, Eq.trans (World.drewN_drewN _ _ _) (congrArg (World.drewN _) (Nat.add_assoc _ _ _))⟩)))
                repeat (go_quiet (first | (go_at_call 67; (with_reducible refine (impl_upside.calls k (bt a1 (ji4)) t179 _ A21.out).mono ?_); rintro e w' ⟨rfl, ⟨nd, rfl⟩⟩; (try first | exact ⟨rfl, _, World.drewN_drewN _ _ _⟩ | exact ⟨rfl, _, Eq.trans (World.drewN_drewN _ _ _) (congrArg (World.drewN _) (Nat.add_assoc _ _ _))⟩))); try go_wp2_with (first | (go_at_call 67; (with_reducible refine (impl_upside.calls k (bt a1 (ji4)) t179 _ A21.out).mono ?_); rintro e w' ⟨rfl, ⟨nd, rfl⟩⟩; (try first | exact ⟨rfl, _, World.drewN_drewN _ _ _⟩ | exact ⟨rfl, _, Eq.trans (World.drewN_drewN _ _ _) (congrArg (World.drewN _) (Nat.add_assoc _ _ _))⟩))))
                go_ret
                exact ⟨by first | rfl | (simp; done) | (simp only [← hji4] <;> (first | rfl | simp)) | (simp [*]; done), by repeat (first | exact Drawn0.refl _ | apply Drawn0.step)⟩
              · rw [if_neg c23] at H
                have c23b0 : decide ((ji4) < (wrap64 ((wrap64 (a2 - 1)) - (ji4)))) = false := decide_eq_false c23
                clear c23
                obtain ⟨ji24, hji24⟩ : ∃ j_ : Int, (wrap64 ((wrap64 (a2 - 1)) - (ji4))) = j_ := ⟨_, rfl⟩
                replace H : (if 0 ≤ (ji24) then (if (ji24) < (a1.size : Int) then ((impl_upside.f k (bt a1 (ji4))).bind fun t180 => (some ((bt a1 (ji24)) == t180))) else (none)) else (none)) = some r := by first | (rw [hji24] at H; exact H) | (simp only [hji24] at H ⊢; exact H)
                (try rw [hji24] at c23b0)
                (try rw [hji24] at A21)
                have hji24w : (IntKind.i64.wrap ((wrap64 (a2 - 1)) - (ji4))) = ji24 := (i64_w _).trans hji24
                by_cases c25 : 0 ≤ (ji24)
                · rw [if_pos c25] at H
                  have c25b0 : decide (0 ≤ (ji24)) = true := decide_eq_true c25
                  clear c25
                  by_cases c26 : (ji24) < (a1.size : Int)
                  · rw [if_pos c26] at H
                    have c26b0 : decide ((ji24) < (a1.size : Int)) = true := decide_eq_true c26
                    clear c26
                    replace H := Option.bind_eq_some_iff.mp H
                    obtain ⟨t180, A290, H⟩ := H
                    replace H : (some ((bt a1 (ji24)) == t180)) = some r := H
                    have A29 := Aside0.mk A290
                    clear A290
                    obtain rfl := Option.some.inj H
                    have p7 : 0 ≤ ((ji4) : Int) := of_decide_eq_true (by first | (with_reducible assumption) | assumption)
                    have q7 : (ji4) < (a1.size : Int) := of_decide_eq_true (by first | (with_reducible assumption) | assumption)
                    have hx7 := bt_at a1 (ji4)
                    replace p7 := eq_true p7
                    replace q7 := eq_true q7
                    have p20 : 0 ≤ ((ji4) : Int) := of_decide_eq_true (by first | (with_reducible assumption) | assumption)
                    have q20 : (ji4) < (a1.size : Int) := of_decide_eq_true (by first | (with_reducible assumption) | assumption)
                    have hx20 := bt_at a1 (ji4)
                    replace p20 := eq_true p20
                    replace q20 := eq_true q20
                    obtain rfl : t180 = t179 := Option.some.inj (A29.out.symm.trans A21.out)
                    have hx27 := bt_at a1 (ji24)
                    have p27 : 0 ≤ ((ji24) : Int) := of_decide_eq_true (by first | (with_reducible assumption) | assumption)
                    have q27 : (ji24) < (a1.size : Int) := of_decide_eq_true (by first | (with_reducible assumption) | assumption)
                    replace p27 := eq_true p27
                    replace q27 := eq_true q27
                    go_enter Try.func61, Try.ntmps61
                    go_wp2_with (fail)
                    go_quiet ((go_at_call 67; (with_reducible refine (impl_upside.calls k (bt a1 (ji4)) t180 _ A21.out).mono ?_); rintro e w' ⟨rfl, ⟨nd, rfl⟩⟩; first | exact ⟨rfl, _, World.drewN_drewN _ _ _⟩ | exact ⟨rfl, _, Eq.trans (World.drewN_drewN _ _ _) (congrArg (World.drewN _) (Nat.add_assoc _ _ _))⟩))
                    go_wp2
                    go_ret
                    exact ⟨by first | rfl | (simp; done) | (simp only [← hji4, ← hji24] <;> (first | rfl | simp)) | (simp [*]; done), by repeat (first | exact Drawn0.refl _ | apply Drawn0.step)⟩
                  · rw [if_neg c26] at H
                    exact absurd H (by simp)
                · rw [if_neg c25] at H
                  exact absurd H (by simp)
          · rw [if_neg c19] at H
            have c19b0 : (a0 == 117) = false := beq_eq_false_iff_ne.mpr c19
            have c19b1 : (a0 != 117) = true := bne_iff_ne.mpr c19
            by_cases c30 : a0 = 114
            · rw [if_pos c30] at H
              have c30b0 : (a0 == 114) = true := beq_iff_eq.mpr c30
              have c30b1 : (a0 != 114) = false := bne_eq_false_iff_eq.mpr c30
              clear c30
              by_cases c31 : (ji4) = 0
              · rw [if_pos c31] at H
                have c31b0 : ((ji4) == 0) = true := beq_iff_eq.mpr c31
                have c31b1 : ((ji4) != 0) = false := bne_eq_false_iff_eq.mpr c31
                clear c31
                obtain rfl := Option.some.inj H
                have p7 : 0 ≤ ((ji4) : Int) := of_decide_eq_true (by first | (with_reducible assumption) | assumption)
                have q7 : (ji4) < (a1.size : Int) := of_decide_eq_true (by first | (with_reducible assumption) | assumption)
                have hx7 := bt_at a1 (ji4)
                replace p7 := eq_true p7
                replace q7 := eq_true q7
                go_enter Try.func61, Try.ntmps61
                go_wp2
                repeat (go_quiet (fail); try go_wp2)
                go_ret
                exact ⟨by first | rfl | (simp; done) | (simp only [← hji4] <;> (first | rfl | simp)) | (simp [*]; done), by repeat (first | exact Drawn0.refl _ | apply Drawn0.step)⟩
              · rw [if_neg c31] at H
                have c31b0 : ((ji4) == 0) = false := beq_eq_false_iff_ne.mpr c31
                have c31b1 : ((ji4) != 0) = true := bne_iff_ne.mpr c31
                obtain ⟨ji32, hji32⟩ : ∃ j_ : Int, (wrap64 ((ji4) - 1)) = j_ := ⟨_, rfl⟩
                replace H : (if 0 ≤ (ji32) then (if (ji32) < (a1.size : Int) then (if (bt a1 (ji32)) < (bt a1 (ji4)) then (some (decide ((wrap64 ((((bt a1 (ji4)) - 48) % 256) + (wrap64 (a2 - (a1.size : Int))))) ≤ 9))) else (some false)) else (none)) else (none)) = some r := by first | (rw [hji32] at H; exact H) | (simp only [hji32] at H ⊢; exact H)
                have hji32w : (IntKind.i64.wrap ((ji4) - 1)) = ji32 := (i64_w _).trans hji32
                by_cases c33 : 0 ≤ (ji32)
                · rw [if_pos c33] at H
                  have c33b0 : decide (0 ≤ (ji32)) = true := decide_eq_true c33
                  clear c33
                  by_cases c34 : (ji32) < (a1.size : Int)
                  · rw [if_pos c34] at H
                    have c34b0 : decide ((ji32) < (a1.size : Int)) = true := decide_eq_true c34
                    clear c34
                    by_cases c37 : (bt a1 (ji32)) < (bt a1 (ji4))
                    · rw [if_pos c37] at H
                      have c37b0 : decide ((bt a1 (ji32)) < (bt a1 (ji4))) = true := decide_eq_true c37
                      clear c37
                      obtain rfl := Option.some.inj H
                      have p7 : 0 ≤ ((ji4) : Int) := of_decide_eq_true (by first | (with_reducible assumption) | assumption)
                      have q7 : (ji4) < (a1.size : Int) := of_decide_eq_true (by first | (with_reducible assumption) | assumption)
                      have hx7 := bt_at a1 (ji4)
                      replace p7 := eq_true p7
                      replace q7 := eq_true q7
                      have p35 : 0 ≤ ((ji32) : Int) := of_decide_eq_true (by first | (with_reducible assumption) | assumption)
                      have q35 : (ji32) < (a1.size : Int) := of_decide_eq_true (by first | (with_reducible assumption) | assumption)
                      have hx35 := bt_at a1 (ji32)
                      replace p35 := eq_true p35
                      replace q35 := eq_true q35
                      have p36 : 0 ≤ ((ji4) : Int) := of_decide_eq_true (by first | (with_reducible assumption) | assumption)
                      have q36 : (ji4) < (a1.size : Int) := of_decide_eq_true (by first | (with_reducible assumption) | assumption)
                      have hx36 := bt_at a1 (ji4)
                      replace p36 := eq_true p36
                      replace q36 := eq_true q36
                      go_enter Try.func61, Try.ntmps61
                      go_wp2
                      repeat (go_quiet (fail); try go_wp2)
                      go_ret
                      exact ⟨by first | rfl | (simp; done) | (simp only [← hji4, ← hji32] <;> (first | rfl | simp)) | (simp [*]; done), by repeat (first | exact Drawn0.refl _ | apply Drawn0.step)⟩
                    · rw [if_neg c37] at H
                      have c37b0 : decide ((bt a1 (ji32)) < (bt a1 (ji4))) = false := decide_eq_false c37
                      clear c37
                      obtain rfl := Option.some.inj H
                      have p7 : 0 ≤ ((ji4) : Int) := of_decide_eq_true (by first | (with_reducible assumption) | assumption)
                      have q7 : (ji4) < (a1.size : Int) := of_decide_eq_true (by first | (with_reducible assumption) | assumption)
                      have hx7 := bt_at a1 (ji4)
                      replace p7 := eq_true p7
                      replace q7 := eq_true q7
                      have p35 : 0 ≤ ((ji32) : Int) := of_decide_eq_true (by first | (with_reducible assumption) | assumption)
                      have q35 : (ji32) < (a1.size : Int) := of_decide_eq_true (by first | (with_reducible assumption) | assumption)
                      have hx35 := bt_at a1 (ji32)
                      replace p35 := eq_true p35
                      replace q35 := eq_true q35
                      have p36 : 0 ≤ ((ji4) : Int) := of_decide_eq_true (by first | (with_reducible assumption) | assumption)
                      have q36 : (ji4) < (a1.size : Int) := of_decide_eq_true (by first | (with_reducible assumption) | assumption)
                      have hx36 := bt_at a1 (ji4)
                      replace p36 := eq_true p36
                      replace q36 := eq_true q36
                      go_enter Try.func61, Try.ntmps61
                      go_wp2
                      repeat (go_quiet (fail); try go_wp2)
                      go_ret
                      exact ⟨by first | rfl | (simp; done) | (simp only [← hji4, ← hji32] <;> (first | rfl | simp)) | (simp [*]; done), by repeat (first | exact Drawn0.refl _ | apply Drawn0.step)⟩
                  · rw [if_neg c34] at H
                    exact absurd H (by simp)
                · rw [if_neg c33] at H
                  exact absurd H (by simp)
            · rw [if_neg c30] at H
              have c30b0 : (a0 == 114) = false := beq_eq_false_iff_ne.mpr c30
              have c30b1 : (a0 != 114) = true := bne_iff_ne.mpr c30
              by_cases c38 : a0 = 102
              · rw [if_pos c38] at H
                have c38b0 : (a0 == 102) = true := beq_iff_eq.mpr c38
                have c38b1 : (a0 != 102) = false := bne_eq_false_iff_eq.mpr c38
                clear c38
                by_cases c39 : (ji4) = 0
                · rw [if_pos c39] at H
                  have c39b0 : ((ji4) == 0) = true := beq_iff_eq.mpr c39
                  have c39b1 : ((ji4) != 0) = false := bne_eq_false_iff_eq.mpr c39
                  clear c39
                  obtain rfl := Option.some.inj H
                  have p7 : 0 ≤ ((ji4) : Int) := of_decide_eq_true (by first | (with_reducible assumption) | assumption)
                  have q7 : (ji4) < (a1.size : Int) := of_decide_eq_true (by first | (with_reducible assumption) | assumption)
                  have hx7 := bt_at a1 (ji4)
                  replace p7 := eq_true p7
                  replace q7 := eq_true q7
                  go_enter Try.func61, Try.ntmps61
                  go_wp2
                  repeat (go_quiet (fail); try go_wp2)
                  go_ret
                  exact ⟨by first | rfl | (simp; done) | (simp only [← hji4] <;> (first | rfl | simp)) | (simp [*]; done), by repeat (first | exact Drawn0.refl _ | apply Drawn0.step)⟩
                · rw [if_neg c39] at H
                  have c39b0 : ((ji4) == 0) = false := beq_eq_false_iff_ne.mpr c39
                  have c39b1 : ((ji4) != 0) = true := bne_iff_ne.mpr c39
                  obtain ⟨ji40, hji40⟩ : ∃ j_ : Int, (wrap64 ((ji4) - 1)) = j_ := ⟨_, rfl⟩
                  replace H : (if 0 ≤ (ji40) then (if (ji40) < (a1.size : Int) then (if (bt a1 (ji40)) > (bt a1 (ji4)) then (some (decide ((((bt a1 (ji4)) - 48) % 256) ≥ (wrap64 (a2 - (a1.size : Int)))))) else (some false)) else (none)) else (none)) = some r := by first | (rw [hji40] at H; exact H) | (simp only [hji40] at H ⊢; exact H)
                  have hji40w : (IntKind.i64.wrap ((ji4) - 1)) = ji40 := (i64_w _).trans hji40
                  by_cases c41 : 0 ≤ (ji40)
                  · rw [if_pos c41] at H
                    have c41b0 : decide (0 ≤ (ji40)) = true := decide_eq_true c41
                    clear c41
                    by_cases c42 : (ji40) < (a1.size : Int)
                    · rw [if_pos c42] at H
                      have c42b0 : decide ((ji40) < (a1.size : Int)) = true := decide_eq_true c42
                      clear c42
                      by_cases c45 : (bt a1 (ji40)) > (bt a1 (ji4))
                      · rw [if_pos c45] at H
                        have c45b0 : decide ((bt a1 (ji4)) < (bt a1 (ji40))) = true := decide_eq_true c45
                        clear c45
                        obtain rfl := Option.some.inj H
                        have p7 : 0 ≤ ((ji4) : Int) := of_decide_eq_true (by first | (with_reducible assumption) | assumption)
                        have q7 : (ji4) < (a1.size : Int) := of_decide_eq_true (by first | (with_reducible assumption) | assumption)
                        have hx7 := bt_at a1 (ji4)
                        replace p7 := eq_true p7
                        replace q7 := eq_true q7
                        have p43 : 0 ≤ ((ji40) : Int) := of_decide_eq_true (by first | (with_reducible assumption) | assumption)
                        have q43 : (ji40) < (a1.size : Int) := of_decide_eq_true (by first | (with_reducible assumption) | assumption)
                        have hx43 := bt_at a1 (ji40)
                        replace p43 := eq_true p43
                        replace q43 := eq_true q43
                        have p44 : 0 ≤ ((ji4) : Int) := of_decide_eq_true (by first | (with_reducible assumption) | assumption)
                        have q44 : (ji4) < (a1.size : Int) := of_decide_eq_true (by first | (with_reducible assumption) | assumption)
                        have hx44 := bt_at a1 (ji4)
                        replace p44 := eq_true p44
                        replace q44 := eq_true q44
                        go_enter Try.func61, Try.ntmps61
                        go_wp2
                        repeat (go_quiet (fail); try go_wp2)
                        go_ret
                        exact ⟨by first | rfl | (simp; done) | (simp only [← hji4, ← hji40] <;> (first | rfl | simp)) | (simp [*]; done), by repeat (first | exact Drawn0.refl _ | apply Drawn0.step)⟩
                      · rw [if_neg c45] at H
                        have c45b0 : decide ((bt a1 (ji4)) < (bt a1 (ji40))) = false := decide_eq_false c45
                        clear c45
                        obtain rfl := Option.some.inj H
                        have p7 : 0 ≤ ((ji4) : Int) := of_decide_eq_true (by first | (with_reducible assumption) | assumption)
                        have q7 : (ji4) < (a1.size : Int) := of_decide_eq_true (by first | (with_reducible assumption) | assumption)
                        have hx7 := bt_at a1 (ji4)
                        replace p7 := eq_true p7
                        replace q7 := eq_true q7
                        have p43 : 0 ≤ ((ji40) : Int) := of_decide_eq_true (by first | (with_reducible assumption) | assumption)
                        have q43 : (ji40) < (a1.size : Int) := of_decide_eq_true (by first | (with_reducible assumption) | assumption)
                        have hx43 := bt_at a1 (ji40)
                        replace p43 := eq_true p43
                        replace q43 := eq_true q43
                        have p44 : 0 ≤ ((ji4) : Int) := of_decide_eq_true (by first | (with_reducible assumption) | assumption)
                        have q44 : (ji4) < (a1.size : Int) := of_decide_eq_true (by first | (with_reducible assumption) | assumption)
                        have hx44 := bt_at a1 (ji4)
                        replace p44 := eq_true p44
                        replace q44 := eq_true q44
                        go_enter Try.func61, Try.ntmps61
                        go_wp2
                        repeat (go_quiet (fail); try go_wp2)
                        go_ret
                        exact ⟨by first | rfl | (simp; done) | (simp only [← hji4, ← hji40] <;> (first | rfl | simp)) | (simp [*]; done), by repeat (first | exact Drawn0.refl _ | apply Drawn0.step)⟩
                    · rw [if_neg c42] at H
                      exact absurd H (by simp)
                  · rw [if_neg c41] at H
                    exact absurd H (by simp)
              · rw [if_neg c38] at H
                have c38b0 : (a0 == 102) = false := beq_eq_false_iff_ne.mpr c38
                have c38b1 : (a0 != 102) = true := bne_iff_ne.mpr c38
                have c46b0 := eq_true (of_decide_eq_true (by first | (with_reducible assumption) | assumption) : 0 ≤ (ji4))
                by_cases c47 : (ji4) ≤ (a1.size : Int)
                · rw [if_pos c47] at H
                  have c47b0 := eq_true c47
                  have c47b1 : decide ((ji4) ≤ (a1.size : Int)) = true := decide_eq_true c47
                  clear c47
                  replace H := Option.bind_eq_some_iff.mp H
                  obtain ⟨t181, A490, H⟩ := H
                  replace H : (some (decide (t181 < 0))) = some r := H
                  have A49 := Aside0.mk A490
                  clear A490
                  obtain rfl := Option.some.inj H
                  have p7 : 0 ≤ ((ji4) : Int) := of_decide_eq_true (by first | (with_reducible assumption) | assumption)
                  have q7 : (ji4) < (a1.size : Int) := of_decide_eq_true (by first | (with_reducible assumption) | assumption)
                  have hx7 := bt_at a1 (ji4)
                  replace p7 := eq_true p7
                  replace q7 := eq_true q7
                  have p48 : 0 ≤ ((ji4) : Int) := of_decide_eq_true (by first | (with_reducible assumption) | assumption)
                  have q48 : (ji4) < (a1.size : Int) := of_decide_eq_true (by first | (with_reducible assumption) | assumption)
                  have hx48 := bt_at a1 (ji4)
                  replace p48 := eq_true p48
                  replace q48 := eq_true q48
                  go_enter Try.func61, Try.ntmps61
                  go_wp2_with (first | (go_at_call 68; (with_reducible refine (strings_IndexByte.calls (a1.extract 0 ((ji4) : Int).toNat) (bt a1 (ji4)) t181 _ A49.out).mono ?_); rintro e w' ⟨rfl, ⟨nd, rfl⟩⟩; (try first | exact ⟨rfl, _, World.drewN_drewN _ _ _⟩ | exact ⟨rfl, _, Eq.trans (World.drewN_drewN _ _ _) (congrArg (World.drewN _) (Nat.add_assoc _ _ _))⟩)))
                  repeat (go_quiet (first | (go_at_call 68; (with_reducible refine (strings_IndexByte.calls (a1.extract 0 ((ji4) : Int).toNat) (bt a1 (ji4)) t181 _ A49.out).mono ?_); rintro e w' ⟨rfl, ⟨nd, rfl⟩⟩; (try first | exact ⟨rfl, _, World.drewN_drewN _ _ _⟩ | exact ⟨rfl, _, Eq.trans (World.drewN_drewN _ _ _) (congrArg (World.drewN _) (Nat.add_assoc _ _ _))⟩))); try go_wp2_with (first | (go_at_call 68; (with_reducible refine (strings_IndexByte.calls (a1.extract 0 ((ji4) : Int).toNat) (bt a1 (ji4)) t181 _ A49.out).mono ?_); rintro e w' ⟨rfl, ⟨nd, rfl⟩⟩; (try first | exact ⟨rfl, _, World.drewN_drewN _ _ _⟩ | exact ⟨rfl, _, Eq.trans (World.drewN_drewN _ _ _) (congrArg (World.drewN _) (Nat.add_assoc _ _ _))⟩))))
                  go_ret
                  exact ⟨by first | rfl | (simp; done) | (simp only [← hji4] <;> (first | rfl | simp)) | (simp [*]; done), by repeat (first | exact Drawn0.refl _ | apply Drawn0.step)⟩
                · rw [if_neg c47] at H
                  exact absurd H (by simp)
    · rw [if_neg c6] at H
      exact absurd H (by simp)
  · rw [if_neg c5] at H
    exact absurd H (by simp)

end Go.Proofs.Ytpdcjkiejglaiaa.Q

/-
  'miDigits' (the reference's count of different digits): over a text of bytes below 128 it returns the number of places whose byte stands nowhere before.
-/
namespace Go.Proofs.Ytpdcjkiejglaiaa.Q
open Go.RowKit Go.Proofs.YtpdcjkiejglaiaaW.PrintWords Go.Proofs.YtpdcjkiejglaiaaW.PrintLast Go.Proofs.YtpdcjkiejglaiaaW.PrintMore

/-- does the byte at place i stand nowhere among the first k? -/
def newTo (s : ByteArray) (i : Nat) : Nat → Bool
  | 0 => true
  | k + 1 => newTo s i k && (bt s k != bt s i)
def cntNew (s : ByteArray) : Nat → Int
  | 0 => 0
  | i + 1 => cntNew s i + (if newTo s i i = true then 1 else 0)
def low (s : ByteArray) : Prop := ∀ i (h : i < s.size), (s[i]'h).toNat < 128
theorem cntNew_le (s : ByteArray) : ∀ i : Nat, 0 ≤ cntNew s i ∧ cntNew s i ≤ i
  | 0 => ⟨by simp [cntNew], by simp [cntNew]⟩
  | i + 1 => by have := cntNew_le s i; simp only [cntNew]; split <;> omega
theorem cntNew_yes (s : ByteArray) (i : Nat) (h : newTo s i i = true) : cntNew s (i + 1) = cntNew s i + 1 := by simp [cntNew, h]
theorem cntNew_no (s : ByteArray) (i : Nat) (h : newTo s i i = false) : cntNew s (i + 1) = cntNew s i := by simp [cntNew, h]
theorem iter_below (w : World) (s : ByteArray) (p : Nat) : Below w.heap.size w (w.iter s p) := below_alloc (Below.refl _ _) _
theorem bt_nat (s : ByteArray) (i : Nat) (h : i < s.size) : ((s[i]'h).toNat : Int) = bt s i := bt_at s i h

set_option maxHeartbeats 1000000 in
theorem miDigits_any (s : ByteArray) (w : World) (hs : s.size ≤ 9223372036854775807) (hl : low s) :
    Calls Try.prog 50 #[.string s] w fun e w' => e = .returned (.int .i64 (cntNew s s.size)) ∧ Below w.heap.size w w' := by
  have HL := Aside0.mk hl
  clear hl
  go_enter Try.func50, Try.ntmps50
  go_wp2
  go_loopg [3] (s.size) (fun g v3 wr => ∃ pos : Nat, v3 = .int .i64 (cntNew s pos) ∧ Aside0 (pos + g = s.size) ∧ Aside0 (wr.heap[w.heap.size]? = some (.stringIter s pos)) ∧ Aside0 (Below w.heap.size w wr))
  case atStart => exact ⟨0, rfl, ⟨by omega⟩, ⟨World.iter_heap _ _ _⟩, ⟨iter_below _ _ _⟩⟩
  case round =>
    obtain ⟨pos, rfl, hg, hit, hb⟩ := hrel
    obtain ⟨go, rfl⟩ : ∃ x, x = gk := ⟨_, rfl⟩
    obtain ⟨wo, rfl⟩ : ∃ x, x = wr := ⟨_, rfl⟩
    by_cases hp : pos < s.size
    · have hnx : ∀ ty, (Instr.next (.pointer (some ⟨w.heap.size, 0, none⟩)) true ty).run Try.prog wo = _ := fun ty => Lib.run_next_ascii_at wo w.heap.size s pos ty hit.out hp (HL.out pos hp)
      have hc := cntNew_le s pos
      obtain ⟨w1, hw1⟩ : ∃ w1, w1 = wo.iterAt w.heap.size s (pos + 1) := ⟨_, rfl⟩
      have hit1 : Aside0 (w1.heap[w.heap.size]? = some (.stringIter s (pos + 1))) := ⟨by rw [hw1]; exact Lib.iterAt_heap _ _ _ _ _ hit.out⟩
      have hb1 : Aside0 (Below w.heap.size w w1) := ⟨by rw [hw1]; exact Lib.below_iterAt hb.out (Nat.le_refl _) _ _⟩
      rw [← hw1] at hnx
      clear hw1
      go_wp2
      go_loopg [5, 6] (pos) (fun g v5 v6 w2 => ∃ k : Nat, v5 = .bool (newTo s pos k) ∧ v6 = .int .i64 k ∧ Aside0 (k + g = pos) ∧ ∃ n, w2 = w1.drewN n)
      case atStart => exact ⟨0, rfl, rfl, ⟨by omega⟩, 0, rfl⟩
      case round =>
        obtain ⟨k, rfl, rfl, hk, n, rfl⟩ := hrel
        clear hnx
        have hk' := hk.out
        by_cases hlt : k < pos
        · have hb1 : k < s.size := by omega
          have bk := bt_nat s k hb1
          have bp := bt_nat s pos hp
          cases hn : newTo s pos k with
          | true =>
            clear hk'
            have HN := Aside0.mk hn
            have e1 : newTo s pos (k + 1) = (bt s k != bt s pos) := by simp [newTo, hn]
            have E1 := Aside0.mk e1
            clear hn e1
            go_wp2
            go_quiet (fail)
            go_wp2
            all_goals
              go_roundg (gk - 1)
              case measure => have := hk.out; omega
              case rel =>
                refine ⟨k + 1, ?_, by go_num, ⟨by have := hk.out; omega⟩, _, rfl⟩
                rw [E1.out]
          | false =>
            clear hk'
            have HN := Aside0.mk hn
            have e1 : newTo s pos (k + 1) = false := by simp [newTo, hn]
            have E1 := Aside0.mk e1
            clear hn e1
            go_wp2
            go_quiet (fail)
            go_wp2
            all_goals
              go_roundg (gk - 1)
              case measure => have := hk.out; omega
              case rel =>
                refine ⟨k + 1, ?_, by go_num, ⟨by have := hk.out; omega⟩, _, rfl⟩
                rw [E1.out]
        · obtain rfl : k = pos := by omega
          clear hk'
          cases hn : newTo s k k with
          | true =>
            have HN := Aside0.mk (cntNew_yes s k hn)
            clear hn
            go_wp2
            go_roundg (go - 1)
            case measure => have := hg.out; omega
            case rel => exact ⟨k + 1, by rw [HN.out], ⟨by have := hg.out; omega⟩, ⟨by exact hit1.out⟩, ⟨pw_below_drewN hb1.out _⟩⟩
          | false =>
            have HN := Aside0.mk (cntNew_no s k hn)
            clear hn
            go_wp2
            go_roundg (go - 1)
            case measure => have := hg.out; omega
            case rel => exact ⟨k + 1, by rw [HN.out], ⟨by have := hg.out; omega⟩, ⟨by exact hit1.out⟩, ⟨pw_below_drewN hb1.out _⟩⟩
    · have hnx : ∀ ty, (Instr.next (.pointer (some ⟨w.heap.size, 0, none⟩)) true ty).run Try.prog wo = _ := fun ty => Lib.run_next_end_at wo w.heap.size s pos ty hit.out hp
      obtain rfl : pos = s.size := by have := hg.out; omega
      go_wp2
      go_ret
      exact ⟨rfl, hb.out⟩

def lowB (s : ByteArray) : Bool := s.data.toList.all fun c => decide (c.toNat < 128)
theorem low_of (s : ByteArray) (h : lowB s = true) : low s := by
  intro i hi
  unfold lowB at h
  rw [List.all_eq_true] at h
  simpa using h (s[i]'hi) (by
    show s.data[i]'hi ∈ s.data.toList
    exact Array.getElem_mem_toList hi)
def spec_miDigits.f (a0 : ByteArray) : Option Int := if lowB a0 = true then (if a0.size ≤ 9223372036854775807 then some (cntNew a0 a0.size) else none) else none
theorem spec_miDigits.calls (a0 : ByteArray) (r : Int) (w : World) (h : spec_miDigits.f a0 = some r) :
    Calls Try.prog 50 #[.string a0] w fun e w' => e = .returned (.int .i64 r) ∧ Below w.heap.size w w' := by
  unfold spec_miDigits.f at h
  by_cases h1 : lowB a0 = true
  · rw [if_pos h1] at h
    by_cases h2 : a0.size ≤ 9223372036854775807
    · rw [if_pos h2] at h
      obtain rfl := Option.some.inj h
      exact miDigits_any a0 w h2 (low_of a0 h1)
    · rw [if_neg h2] at h
      cases h
  · rw [if_neg h1] at h
    cases h

end Go.Proofs.Ytpdcjkiejglaiaa.Q
