/-
  Texts of this claim, joined in their build order: the contracts of the functions that the statement reaches, and plain lemmas.
-/
import Derived.Test.YtpdcjkiejglaiaaProg
import Derived.Below
import Derived.Deep.Draws
import Derived.Deep.AppendLies
import Derived.Maps.AppendAt
import Derived.OwnWalk
import Derived.Laws.BytesArg
import Derived.Laws.MakeOwn
import Derived.Laws.OwnMore
import Derived.Deep.OwnRows
import Derived.Tactics
import Derived.Lib.ConvBytes
import Derived.Laws.Slices
import Derived.WalkKit
import Derived.KernelRfl
import Derived.RowKit3
import Derived.Deep.LoopGhost
import Derived.Deep.QuietTactic
import Derived.BigQuiet
import Derived.WideLaws
import Derived.Deep.DeepCutAuto
import Derived.Deep.CutBlock
import Derived.Deep.RegionHeld3
import Derived.Laws.Rows
import Derived.Lib.AppendStr
import Derived.ArgAppend
import Derived.Laws.IdiomCopy
import Derived.OrdersHeld
import Derived.Laws.BitsLemmas
import Derived.RowKit
import Derived.Test.YtpdcjkiejglaiaaWWords
import Derived.Test.YtpdcjkiejglaiaaWLast
import Derived.Test.YtpdcjkiejglaiaaWTab
import Derived.Test.YtpdcjkiejglaiaaWFour
import Derived.Test.YtpdcjkiejglaiaaWQPut
import Derived.Test.YtpdcjkiejglaiaaWApart
import Derived.Test.YtpdcjkiejglaiaaWArr
import Derived.Test.YtpdcjkiejglaiaaWZeros
import Derived.Test.YtpdcjkiejglaiaaWFoot
import Derived.Test.YtpdcjkiejglaiaaWKept
import Derived.Test.YtpdcjkiejglaiaaWShare
import Derived.Test.YtpdcjkiejglaiaaWN
import Derived.Test.YtpdcjkiejglaiaaWFootNe
import Derived.Test.YtpdcjkiejglaiaaWAt
import Derived.Test.YtpdcjkiejglaiaaWEqStruct
import Derived.Test.YtpdcjkiejglaiaaWRepsOne
import Derived.Test.YtpdcjkiejglaiaaWInv
import Derived.Test.YtpdcjkiejglaiaaWInvWords
import Derived.Test.YtpdcjkiejglaiaaWGuard
import Derived.Test.YtpdcjkiejglaiaaWNEv
import Derived.Test.YtpdcjkiejglaiaaWMore
import Derived.OneCell
import Derived.Lib.Strings
import Derived.ChangeAlike

/- Laid by a program of this session (wip/tools/own_print.py) over the translation of this seat: contracts of the functions that the statement reaches. -/
namespace Go.Proofs.Ytpdcjkiejglaiaa.Q
open Go.RowKit Go.Proofs.YtpdcjkiejglaiaaW.PrintWords Go.Proofs.YtpdcjkiejglaiaaW.PrintLast Go.Proofs.YtpdcjkiejglaiaaW.PrintMore
attribute [local go_sem] max2_int min2_int max_two min_two max_three min_three max_four min_four   -- for this text's walks alone
set_option linter.unusedVariables false
set_option linter.unusedSimpArgs false



def errW : Option Int → Value
  | none => .nilIface
  | some c => .iface 0 (.int .i64 c)
theorem errW_none : errW none = .nilIface := rfl
theorem errW_some (c : Int) : errW (some c) = .iface 0 (.int .i64 c) := rfl

theorem info3 : (Try.prog.info? 3).map (fun i => (i.zero, i.size, i.bytes)) = some (some (.int .i64 0), 1, 8) := by kernel_rfl
theorem info4 : (Try.prog.info? 4).map (fun i => (i.zero, i.size, i.bytes)) = some (some (.bool false), 1, 1) := by kernel_rfl
theorem info5 : (Try.prog.info? 5).map (fun i => (i.zero, i.size, i.bytes)) = some (some (.int .u8 0), 1, 1) := by kernel_rfl
theorem info9 : (Try.prog.info? 9).map (fun i => (i.zero, i.size, i.bytes)) = some (some (.string ⟨#[]⟩), 1, 16) := by kernel_rfl
-- the values' own types
/-! #### struct type 56 -/
structure S56 where
  f0 : Int
  f1 : Int
  f2 : Int
def z56 : S56 := ⟨(0 : Int), (0 : Int), (0 : Int)⟩
def k56 : Kd S56 := Kd.iso (Kd.pair (Kd.int .i64) (Kd.pair (Kd.int .i64) (Kd.int .u8))) (fun x : S56 => (x.f0, x.f1, x.f2))
theorem k56_open {w : World} {x : S56} {cs : List Value} (h : k56.K w x cs) : cs = [.int .i64 x.f0, .int .i64 x.f1, .int .u8 x.f2] := by
  obtain ⟨_, _, rfl, rfl, ⟨_, _, rfl, rfl, rfl⟩⟩ := h
  exact rfl
theorem k56_openM {w : World} {base : Nat} {ok : Nat → Prop} {x : S56} {cs : List Value} (h : k56.M w base ok x cs) : cs = [.int .i64 x.f0, .int .i64 x.f1, .int .u8 x.f2] := by
  obtain ⟨_, _, rfl, rfl, ⟨_, _, rfl, rfl, rfl⟩⟩ := h
  exact rfl
theorem k56_mk (w : World) (x : S56)  : k56.K w x [.int .i64 x.f0, .int .i64 x.f1, .int .u8 x.f2] := ⟨[.int .i64 x.f0], [.int .i64 x.f1, .int .u8 x.f2], rfl, rfl, ⟨[.int .i64 x.f1], [.int .u8 x.f2], rfl, rfl, rfl⟩⟩
theorem k56_mkM (w : World) (base : Nat) (ok : Nat → Prop) (x : S56)  : k56.M w base ok x [.int .i64 x.f0, .int .i64 x.f1, .int .u8 x.f2] := ⟨[.int .i64 x.f0], [.int .i64 x.f1, .int .u8 x.f2], rfl, rfl, ⟨[.int .i64 x.f1], [.int .u8 x.f2], rfl, rfl, rfl⟩⟩
def rd_T56 (xs : List S56) (i : Int) : S56 := xs.getD i.toNat z56
theorem at_T56 {w : World} {A : Option Addr} {n : Nat} {xs : List S56} (h : Kd.C k56 w A n xs) (i : Int) (h0 : 0 ≤ i) (h1 : i < n) : ∃ ad , A = some ad ∧ w.cell? (ad.add (i.toNat * 3)) = some (.int .i64 (rd_T56 xs i).f0) ∧ w.cell? ⟨(ad.add (i.toNat * 3)).block, (ad.add (i.toNat * 3)).off + 1, none⟩ = some (.int .i64 (rd_T56 xs i).f1) ∧ w.cell? ⟨(ad.add (i.toNat * 3)).block, (ad.add (i.toNat * 3)).off + 2, none⟩ = some (.int .u8 (rd_T56 xs i).f2) := by
  obtain ⟨ad, c, e, _, hK, hc0⟩ := Kd.C_get h z56 i h0 h1
  have hc : ∀ j u, c[j]? = some u → w.cell? (ad.add (i.toNat * 3 + j)) = some u := hc0
  obtain rfl := k56_open hK
  exact ⟨ad, e, hc 0 _ rfl, by rw [← add_field _ _ 1 (by omega)]; exact hc 1 _ rfl, by rw [← add_field _ _ 2 (by omega)]; exact hc 2 _ rfl⟩

end Go.Proofs.Ytpdcjkiejglaiaa.Q

/-
  'leMultiple' (the reference's search for the least multiple with some digits): what it returns, round by round. Laid by a program of this session, one store behind a draw completed by hand.
-/
namespace Go.Proofs.Ytpdcjkiejglaiaa.Q
open Go.RowKit Go.Proofs.YtpdcjkiejglaiaaW.PrintWords Go.Proofs.YtpdcjkiejglaiaaW.PrintLast Go.Proofs.YtpdcjkiejglaiaaW.PrintMore
attribute [local go_sem] max2_int min2_int max_two min_two max_three min_three max_four min_four   -- for this text's walks alone
set_option linter.unusedVariables false
set_option linter.unusedSimpArgs false

/-! ### spec_leMultiple: function 28 -/
mutual
def spec_leMultiple.l0 : Nat → Int → ByteArray → List Bool → List ByteArray → List Int → Option (ByteArray × Bool)
  | 0, _, _, _, _, _ => none
  | k + 1, x0, x1, x6, x7, x8 => if (x7.length : Int) > 0 then (spec_leMultiple.l1 k x0 x1 x6 x8 ([] : List ByteArray) ([] : List Int) x7 (x7.length : Int) 0) else (some ((⟨#[]⟩ : ByteArray), false))
def spec_leMultiple.l1 : Nat → Int → ByteArray → List Bool → List Int → List ByteArray → List Int → List ByteArray → Int → Int → Option (ByteArray × Bool)
  | 0, _, _, _, _, _, _, _, _, _ => none
  | k + 1, x0, x1, x6, x8, x9, x10, x22, x23, x24 => if x24 < x23 then (if 0 ≤ x24 then (if x24 < (x22.length : Int) then (spec_leMultiple.l2 k x0 x1 x6 x8 x9 x10 x24 (rdOf ByteArray.empty x22 x24) 0 x22 x23 x24) else (none)) else (none)) else (spec_leMultiple.l0 k x0 x1 x6 x9 x10)
def spec_leMultiple.l2 : Nat → Int → ByteArray → List Bool → List Int → List ByteArray → List Int → Int → ByteArray → Int → List ByteArray → Int → Int → Option (ByteArray × Bool)
  | 0, _, _, _, _, _, _, _, _, _, _, _, _ => none
  | k + 1, x0, x1, x6, x8, x9, x10, x11, x12, x13, x22, x23, x24 => if x13 < (x1.size : Int) then (if x12.toList = ([] : List UInt8) then (if 0 ≤ x13 then (spec_leMultiple.j3 k x0 x1 x6 x8 x9 x10 x11 x12 x13 x22 x23 x24 ((bt x1 x13) == 48)) else (none)) else (spec_leMultiple.j3 k x0 x1 x6 x8 x9 x10 x11 x12 x13 x22 x23 x24 false)) else (spec_leMultiple.l1 k x0 x1 x6 x8 x9 x10 x22 x23 (wrap64 (x24 + 1)))
def spec_leMultiple.j3 : Nat → Int → ByteArray → List Bool → List Int → List ByteArray → List Int → Int → ByteArray → Int → List ByteArray → Int → Int → Bool → Option (ByteArray × Bool)
  | 0, _, _, _, _, _, _, _, _, _, _, _, _, _ => none
  | k + 1, x0, x1, x6, x8, x9, x10, x11, x12, x13, x22, x23, x24, x42 => if x42 = true then (spec_leMultiple.l2 k x0 x1 x6 x8 x9 x10 x11 x12 (wrap64 (x13 + 1)) x22 x23 x24) else (if 0 ≤ x11 then (if x11 < (x8.length : Int) then (if 0 ≤ x13 then (if x13 < (x1.size : Int) then (if x0 = 0 then (none) else (if (Int.tmod (wrap64 ((wrap64 (10 * (rd x8 x11))) + (((bt x1 x13) - 48) % 256))) x0) = 0 then (if x13 ≤ (wrap64 (x13 + 1)) then (if (wrap64 (x13 + 1)) ≤ (x1.size : Int) then (if x12.size + (x1.extract (x13 : Int).toNat ((wrap64 (x13 + 1)) : Int).toNat).size ≤ 9223372036854775807 then (some (x12 ++ (x1.extract (x13 : Int).toNat ((wrap64 (x13 + 1)) : Int).toNat), true)) else (none)) else (none)) else (none)) else (if 0 ≤ (Int.tmod (wrap64 ((wrap64 (10 * (rd x8 x11))) + (((bt x1 x13) - 48) % 256))) x0) then (if (Int.tmod (wrap64 ((wrap64 (10 * (rd x8 x11))) + (((bt x1 x13) - 48) % 256))) x0) < (x6.length : Int) then (if (rdOf false x6 (Int.tmod (wrap64 ((wrap64 (10 * (rd x8 x11))) + (((bt x1 x13) - 48) % 256))) x0) = true) then (spec_leMultiple.l2 k x0 x1 x6 x8 x9 x10 x11 x12 (wrap64 (x13 + 1)) x22 x23 x24) else (if x13 ≤ (wrap64 (x13 + 1)) then (if (wrap64 (x13 + 1)) ≤ (x1.size : Int) then (if x12.size + (x1.extract (x13 : Int).toNat ((wrap64 (x13 + 1)) : Int).toNat).size ≤ 9223372036854775807 then (if x9.length < 8796093022208 then (if x10.length < 17592186044416 then (spec_leMultiple.l2 k x0 x1 (x6.set ((Int.tmod (wrap64 ((wrap64 (10 * (rd x8 x11))) + (((bt x1 x13) - 48) % 256))) x0) : Int).toNat true) x8 (x9 ++ [x12 ++ (x1.extract (x13 : Int).toNat ((wrap64 (x13 + 1)) : Int).toNat)]) (x10 ++ [Int.tmod (wrap64 ((wrap64 (10 * (rd x8 x11))) + (((bt x1 x13) - 48) % 256))) x0]) x11 x12 (wrap64 (x13 + 1)) x22 x23 x24) else (none)) else (none)) else (none)) else (none)) else (none))) else (none)) else (none)))) else (none)) else (none)) else (none)) else (none))
end
def spec_leMultiple.f (k : Nat) (a0 : Int) (a1 : ByteArray) : Option (ByteArray × Bool) := if 0 ≤ a0 then (if (a0 : Int).toNat ≤ 281474976710656 then (spec_leMultiple.l0 k a0 a1 (List.replicate (a0 : Int).toNat false) (([(⟨#[]⟩ : ByteArray)] : List ByteArray)) (([0] : List Int))) else (none)) else (none)
theorem spec_leMultiple.mono_l : ∀ k, (∀ y0 y1 y2 y3 y4, LeO (spec_leMultiple.l0 k y0 y1 y2 y3 y4) (spec_leMultiple.l0 (k + 1) y0 y1 y2 y3 y4)) ∧ (∀ y0 y1 y2 y3 y4 y5 y6 y7 y8, LeO (spec_leMultiple.l1 k y0 y1 y2 y3 y4 y5 y6 y7 y8) (spec_leMultiple.l1 (k + 1) y0 y1 y2 y3 y4 y5 y6 y7 y8)) ∧ (∀ y0 y1 y2 y3 y4 y5 y6 y7 y8 y9 y10 y11, LeO (spec_leMultiple.l2 k y0 y1 y2 y3 y4 y5 y6 y7 y8 y9 y10 y11) (spec_leMultiple.l2 (k + 1) y0 y1 y2 y3 y4 y5 y6 y7 y8 y9 y10 y11)) ∧ (∀ y0 y1 y2 y3 y4 y5 y6 y7 y8 y9 y10 y11 y12, LeO (spec_leMultiple.j3 k y0 y1 y2 y3 y4 y5 y6 y7 y8 y9 y10 y11 y12) (spec_leMultiple.j3 (k + 1) y0 y1 y2 y3 y4 y5 y6 y7 y8 y9 y10 y11 y12))
  | 0 => ⟨fun _ _ _ _ _ r h => by simp [spec_leMultiple.l0] at h, fun _ _ _ _ _ _ _ _ _ r h => by simp [spec_leMultiple.l1] at h, fun _ _ _ _ _ _ _ _ _ _ _ _ r h => by simp [spec_leMultiple.l2] at h, fun _ _ _ _ _ _ _ _ _ _ _ _ _ r h => by simp [spec_leMultiple.j3] at h⟩
  | k + 1 => by
    obtain ⟨ih0, ih1, ih2, ih3⟩ := spec_leMultiple.mono_l k
    refine ⟨?_, ?_, ?_, ?_⟩
    · intro y0 y1 y2 y3 y4
      unfold spec_leMultiple.l0
      repeat' first
      | (with_reducible exact ih0 _ _ _ _ _)
      | (with_reducible exact ih1 _ _ _ _ _ _ _ _ _)
      | (with_reducible exact ih2 _ _ _ _ _ _ _ _ _ _ _ _)
      | (with_reducible exact ih3 _ _ _ _ _ _ _ _ _ _ _ _ _)
      | (with_reducible exact LeO.refl _)
      | (with_reducible exact LeO.none _)
      | (with_reducible refine LeO.ite ?_ ?_)
      | (with_reducible refine LeO.bind ?_ (fun _ => ?_))
      | exact ih0 _ _ _ _ _
      | exact ih1 _ _ _ _ _ _ _ _ _
      | exact ih2 _ _ _ _ _ _ _ _ _ _ _ _
      | exact ih3 _ _ _ _ _ _ _ _ _ _ _ _ _
      | exact LeO.none _
      | refine LeO.ite ?_ ?_
      | refine LeO.bind ?_ (fun _ => ?_)
    · intro y0 y1 y2 y3 y4 y5 y6 y7 y8
      unfold spec_leMultiple.l1
      repeat' first
      | (with_reducible exact ih0 _ _ _ _ _)
      | (with_reducible exact ih1 _ _ _ _ _ _ _ _ _)
      | (with_reducible exact ih2 _ _ _ _ _ _ _ _ _ _ _ _)
      | (with_reducible exact ih3 _ _ _ _ _ _ _ _ _ _ _ _ _)
      | (with_reducible exact LeO.refl _)
      | (with_reducible exact LeO.none _)
      | (with_reducible refine LeO.ite ?_ ?_)
      | (with_reducible refine LeO.bind ?_ (fun _ => ?_))
      | exact ih0 _ _ _ _ _
      | exact ih1 _ _ _ _ _ _ _ _ _
      | exact ih2 _ _ _ _ _ _ _ _ _ _ _ _
      | exact ih3 _ _ _ _ _ _ _ _ _ _ _ _ _
      | exact LeO.none _
      | refine LeO.ite ?_ ?_
      | refine LeO.bind ?_ (fun _ => ?_)
    · intro y0 y1 y2 y3 y4 y5 y6 y7 y8 y9 y10 y11
      unfold spec_leMultiple.l2
      repeat' first
      | (with_reducible exact ih0 _ _ _ _ _)
      | (with_reducible exact ih1 _ _ _ _ _ _ _ _ _)
      | (with_reducible exact ih2 _ _ _ _ _ _ _ _ _ _ _ _)
      | (with_reducible exact ih3 _ _ _ _ _ _ _ _ _ _ _ _ _)
      | (with_reducible exact LeO.refl _)
      | (with_reducible exact LeO.none _)
      | (with_reducible refine LeO.ite ?_ ?_)
      | (with_reducible refine LeO.bind ?_ (fun _ => ?_))
      | exact ih0 _ _ _ _ _
      | exact ih1 _ _ _ _ _ _ _ _ _
      | exact ih2 _ _ _ _ _ _ _ _ _ _ _ _
      | exact ih3 _ _ _ _ _ _ _ _ _ _ _ _ _
      | exact LeO.none _
      | refine LeO.ite ?_ ?_
      | refine LeO.bind ?_ (fun _ => ?_)
    · intro y0 y1 y2 y3 y4 y5 y6 y7 y8 y9 y10 y11 y12
      unfold spec_leMultiple.j3
      repeat' first
      | (with_reducible exact ih0 _ _ _ _ _)
      | (with_reducible exact ih1 _ _ _ _ _ _ _ _ _)
      | (with_reducible exact ih2 _ _ _ _ _ _ _ _ _ _ _ _)
      | (with_reducible exact ih3 _ _ _ _ _ _ _ _ _ _ _ _ _)
      | (with_reducible exact LeO.refl _)
      | (with_reducible exact LeO.none _)
      | (with_reducible refine LeO.ite ?_ ?_)
      | (with_reducible refine LeO.bind ?_ (fun _ => ?_))
      | exact ih0 _ _ _ _ _
      | exact ih1 _ _ _ _ _ _ _ _ _
      | exact ih2 _ _ _ _ _ _ _ _ _ _ _ _
      | exact ih3 _ _ _ _ _ _ _ _ _ _ _ _ _
      | exact LeO.none _
      | refine LeO.ite ?_ ?_
      | refine LeO.bind ?_ (fun _ => ?_)
theorem spec_leMultiple.mono : ∀ a0 a1 k, LeO (spec_leMultiple.f k a0 a1) (spec_leMultiple.f (k + 1) a0 a1) := by
  intro a0 a1 k
  obtain ⟨ih0, ih1, ih2, ih3⟩ := spec_leMultiple.mono_l k
  unfold spec_leMultiple.f
  repeat' first
      | (with_reducible exact ih0 _ _ _ _ _)
      | (with_reducible exact ih1 _ _ _ _ _ _ _ _ _)
      | (with_reducible exact ih2 _ _ _ _ _ _ _ _ _ _ _ _)
      | (with_reducible exact ih3 _ _ _ _ _ _ _ _ _ _ _ _ _)
      | (with_reducible exact LeO.refl _)
      | (with_reducible exact LeO.none _)
      | (with_reducible refine LeO.ite ?_ ?_)
      | (with_reducible refine LeO.bind ?_ (fun _ => ?_))
      | exact ih0 _ _ _ _ _
      | exact ih1 _ _ _ _ _ _ _ _ _
      | exact ih2 _ _ _ _ _ _ _ _ _ _ _ _
      | exact ih3 _ _ _ _ _ _ _ _ _ _ _ _ _
      | exact LeO.none _
      | refine LeO.ite ?_ ?_
      | refine LeO.bind ?_ (fun _ => ?_)
set_option maxHeartbeats 8000000 in
set_option maxRecDepth 100000 in
theorem spec_leMultiple.calls (k : Nat) (a0 : Int) (a1 : ByteArray) (r1 : ByteArray) (r2 : Bool) (w : World) (h : spec_leMultiple.f k a0 a1 = some (r1, r2)) :
    Calls Try.prog 28 #[.int .i64 a0, .string a1] w fun e w' => e = .returned (.tuple #[.string r1, .bool r2]) ∧ Below w.heap.size w w' := by
  have HB := Aside0.mk (Below.refl w.heap.size w)
  have H : (if 0 ≤ a0 then (if (a0 : Int).toNat ≤ 281474976710656 then (spec_leMultiple.l0 k a0 a1 (List.replicate (a0 : Int).toNat false) (([(⟨#[]⟩ : ByteArray)] : List ByteArray)) (([0] : List Int))) else (none)) else (none)) = some (r1, r2) := h
  clear h
  by_cases c3 : 0 ≤ a0
  · rw [if_pos c3] at H
    have c3b0 := eq_true c3
    have c3b1 : decide (0 ≤ a0) = true := decide_eq_true c3
    clear c3
    by_cases c4 : (a0 : Int).toNat ≤ 281474976710656
    · rw [if_pos c4] at H
      have c4b0 := eq_true c4
      have c4b1 : decide ((a0 : Int).toNat ≤ 281474976710656) = true := decide_eq_true c4
      clear c4
      obtain ⟨y101, hy101⟩ : ∃ y_ : List Bool, y_ = (List.replicate (a0 : Int).toNat false) := ⟨_, rfl⟩
      replace H : (spec_leMultiple.l0 k a0 a1 y101 (([(⟨#[]⟩ : ByteArray)] : List ByteArray)) (([0] : List Int))) = some (r1, r2) := by first | (rw [hy101]; with_reducible exact H) | (have H2_ := (Option.bind_some _ _).symm.trans H; rw [hy101]; with_reducible exact H2_) | (have H2_ := (Option.bind_some _ _).symm.trans H; with_reducible exact H2_) | with_reducible exact H | (rw [hy101]; exact H) | exact H
      have Ny101 := Aside0.mk hy101
      clear hy101
      obtain ⟨y104, hy104⟩ : ∃ y_ : List ByteArray, y_ = (([(⟨#[]⟩ : ByteArray)] : List ByteArray)) := ⟨_, rfl⟩
      replace H : (spec_leMultiple.l0 k a0 a1 y101 y104 (([0] : List Int))) = some (r1, r2) := by first | (rw [hy104]; with_reducible exact H) | (have H2_ := (Option.bind_some _ _).symm.trans H; rw [hy104]; with_reducible exact H2_) | (have H2_ := (Option.bind_some _ _).symm.trans H; with_reducible exact H2_) | with_reducible exact H | (rw [hy104]; exact H) | exact H
      have Ny104 := Aside0.mk hy104
      clear hy104
      obtain ⟨y107, hy107⟩ : ∃ y_ : List Int, y_ = (([0] : List Int)) := ⟨_, rfl⟩
      replace H : (spec_leMultiple.l0 k a0 a1 y101 y104 y107) = some (r1, r2) := by first | (rw [hy107]; with_reducible exact H) | (have H2_ := (Option.bind_some _ _).symm.trans H; rw [hy107]; with_reducible exact H2_) | (have H2_ := (Option.bind_some _ _).symm.trans H; with_reducible exact H2_) | with_reducible exact H | (rw [hy107]; exact H) | exact H
      have Ny107 := Aside0.mk hy107
      clear hy107
      have H' := Aside0.mk H
      clear H
      go_enter Try.func28, Try.ntmps28
      go_wp2_with (first | ((with_reducible refine gate_dst (N := 16) rfl ?_); refine Kd.R_make Kd.bool _ 4 rfl (N := 16) rfl 52 _ _ rfl a0 rfl rfl Try.underlying52 (.bool false) 1 info4 rfl (by decide) (by omega) false (ok := fun _ => True) (okp := fun _ => True) rfl (fun _ hk => hk) trivial (of_decide_eq_true (by first | (with_reducible assumption) | assumption)) (Nat.le_trans (Nat.mul_le_mul_right _ (of_decide_eq_true (by first | (with_reducible assumption) | assumption) : a0.toNat ≤ 281474976710656)) (by omega)) (Below.refl _ _) (Nat.le_refl _) ?_; intro v102 w5 ho6 hb hg_ hnew_; clear hg_ hnew_; (first | rw [← Ny101.out] at ho6 | (simp only [Int.reduceToNat] at ho6; rw [← Ny101.out] at ho6)); have n0_ := Aside0.mk (Kd.R_lower ho6 (below_size (by repeat (first | (with_reducible first | exact HB.out | apply below_alloc | apply pw_below_drewN | apply below_drew1) | exact HB.out)))); have n1_ := Aside0.mk (below_step (by repeat (first | (with_reducible first | exact HB.out | apply below_alloc | apply pw_below_drewN | apply below_drew1) | exact HB.out)) hb); clear HB; have HO103 := n0_; have HB := n1_; clear n0_ n1_; clear hb ho6) | ((with_reducible refine gate_dst (N := 17) rfl ?_); refine Kd.R_lit Kd.string _ 9 ?hg (N := 17) ?hd (xs := ([(⟨#[]⟩ : ByteArray)] : List ByteArray)) (inner := [.string (⟨#[]⟩ : ByteArray)]) (ok := fun _ => True) (okp := fun _ => True) ?hr ?hp (fun _ hk => hk) trivial (Below.refl _ _) (Nat.le_refl _) (by simp) ?_; (case hd => rfl); (case hg => rfl); (case hr => first | (go_simp; done) | (go_simp; rfl)); (case hp => exact (Reps.one (show Kd.M Kd.string _ _ _ (⟨#[]⟩ : ByteArray) [.string (⟨#[]⟩ : ByteArray)] from rfl) (Reps.none _ _))); intro v105 w7 ho8 hb hg_ hnew_; clear hg_ hnew_; (first | rw [← Ny104.out] at ho8 | (simp only [Int.reduceToNat] at ho8; rw [← Ny104.out] at ho8)); have n0_ := Aside0.mk (Kd.R_below (by (with_reducible repeat (first | apply Kd.R_alloc | apply Kd.R_drewN | apply Kd.R_drew)); exact HO103.out) hb); have n1_ := Aside0.mk (Kd.R_lower ho8 (below_size (by repeat (first | (with_reducible first | exact HB.out | apply below_alloc | apply pw_below_drewN | apply below_drew1) | exact HB.out)))); have n2_ := Aside0.mk (below_step (by repeat (first | (with_reducible first | exact HB.out | apply below_alloc | apply pw_below_drewN | apply below_drew1) | exact HB.out)) hb); clear HO103; clear HB; have HO103 := n0_; have HO106 := n1_; have HB := n2_; clear n0_ n1_ n2_; clear hb ho8) | ((with_reducible refine gate_dst (N := 18) rfl ?_); refine Kd.R_lit (Kd.int .i64) _ 3 ?hg (N := 18) ?hd (xs := ([0] : List Int)) (inner := [.int .i64 0]) (ok := fun _ => True) (okp := fun _ => True) ?hr ?hp (fun _ hk => hk) trivial (Below.refl _ _) (Nat.le_refl _) (by simp) ?_; (case hd => rfl); (case hg => rfl); (case hr => first | (go_simp; done) | (go_simp; rfl)); (case hp => exact (Reps.one (show Kd.M (Kd.int .i64) _ _ _ 0 [.int .i64 0] from rfl) (Reps.none _ _))); intro v108 w9 ho10 hb hg_ hnew_; clear hg_ hnew_; (first | rw [← Ny107.out] at ho10 | (simp only [Int.reduceToNat] at ho10; rw [← Ny107.out] at ho10)); have n0_ := Aside0.mk (Kd.R_below (by (with_reducible repeat (first | apply Kd.R_alloc | apply Kd.R_drewN | apply Kd.R_drew)); exact HO103.out) hb); have n1_ := Aside0.mk (Kd.R_below (by (with_reducible repeat (first | apply Kd.R_alloc | apply Kd.R_drewN | apply Kd.R_drew)); exact HO106.out) hb); have n2_ := Aside0.mk (Kd.R_lower ho10 (below_size (by repeat (first | (with_reducible first | exact HB.out | apply below_alloc | apply pw_below_drewN | apply below_drew1) | exact HB.out)))); have n3_ := Aside0.mk (below_step (by repeat (first | (with_reducible first | exact HB.out | apply below_alloc | apply pw_below_drewN | apply below_drew1) | exact HB.out)) hb); clear HO103; clear HO106; clear HB; have HO103 := n0_; have HO106 := n1_; have HO109 := n2_; have HB := n3_; clear n0_ n1_ n2_ n3_; clear hb ho10))
      repeat (go_quiet (first | ((with_reducible refine gate_dst (N := 16) rfl ?_); refine Kd.R_make Kd.bool _ 4 rfl (N := 16) rfl 52 _ _ rfl a0 rfl rfl Try.underlying52 (.bool false) 1 info4 rfl (by decide) (by omega) false (ok := fun _ => True) (okp := fun _ => True) rfl (fun _ hk => hk) trivial (of_decide_eq_true (by first | (with_reducible assumption) | assumption)) (Nat.le_trans (Nat.mul_le_mul_right _ (of_decide_eq_true (by first | (with_reducible assumption) | assumption) : a0.toNat ≤ 281474976710656)) (by omega)) (Below.refl _ _) (Nat.le_refl _) ?_; intro v102 w5 ho6 hb hg_ hnew_; clear hg_ hnew_; (first | rw [← Ny101.out] at ho6 | (simp only [Int.reduceToNat] at ho6; rw [← Ny101.out] at ho6)); have n0_ := Aside0.mk (Kd.R_lower ho6 (below_size (by repeat (first | (with_reducible first | exact HB.out | apply below_alloc | apply pw_below_drewN | apply below_drew1) | exact HB.out)))); have n1_ := Aside0.mk (below_step (by repeat (first | (with_reducible first | exact HB.out | apply below_alloc | apply pw_below_drewN | apply below_drew1) | exact HB.out)) hb); clear HB; have HO103 := n0_; have HB := n1_; clear n0_ n1_; clear hb ho6) | ((with_reducible refine gate_dst (N := 17) rfl ?_); refine Kd.R_lit Kd.string _ 9 ?hg (N := 17) ?hd (xs := ([(⟨#[]⟩ : ByteArray)] : List ByteArray)) (inner := [.string (⟨#[]⟩ : ByteArray)]) (ok := fun _ => True) (okp := fun _ => True) ?hr ?hp (fun _ hk => hk) trivial (Below.refl _ _) (Nat.le_refl _) (by simp) ?_; (case hd => rfl); (case hg => rfl); (case hr => first | (go_simp; done) | (go_simp; rfl)); (case hp => exact (Reps.one (show Kd.M Kd.string _ _ _ (⟨#[]⟩ : ByteArray) [.string (⟨#[]⟩ : ByteArray)] from rfl) (Reps.none _ _))); intro v105 w7 ho8 hb hg_ hnew_; clear hg_ hnew_; (first | rw [← Ny104.out] at ho8 | (simp only [Int.reduceToNat] at ho8; rw [← Ny104.out] at ho8)); have n0_ := Aside0.mk (Kd.R_below (by (with_reducible repeat (first | apply Kd.R_alloc | apply Kd.R_drewN | apply Kd.R_drew)); exact HO103.out) hb); have n1_ := Aside0.mk (Kd.R_lower ho8 (below_size (by repeat (first | (with_reducible first | exact HB.out | apply below_alloc | apply pw_below_drewN | apply below_drew1) | exact HB.out)))); have n2_ := Aside0.mk (below_step (by repeat (first | (with_reducible first | exact HB.out | apply below_alloc | apply pw_below_drewN | apply below_drew1) | exact HB.out)) hb); clear HO103; clear HB; have HO103 := n0_; have HO106 := n1_; have HB := n2_; clear n0_ n1_ n2_; clear hb ho8) | ((with_reducible refine gate_dst (N := 18) rfl ?_); refine Kd.R_lit (Kd.int .i64) _ 3 ?hg (N := 18) ?hd (xs := ([0] : List Int)) (inner := [.int .i64 0]) (ok := fun _ => True) (okp := fun _ => True) ?hr ?hp (fun _ hk => hk) trivial (Below.refl _ _) (Nat.le_refl _) (by simp) ?_; (case hd => rfl); (case hg => rfl); (case hr => first | (go_simp; done) | (go_simp; rfl)); (case hp => exact (Reps.one (show Kd.M (Kd.int .i64) _ _ _ 0 [.int .i64 0] from rfl) (Reps.none _ _))); intro v108 w9 ho10 hb hg_ hnew_; clear hg_ hnew_; (first | rw [← Ny107.out] at ho10 | (simp only [Int.reduceToNat] at ho10; rw [← Ny107.out] at ho10)); have n0_ := Aside0.mk (Kd.R_below (by (with_reducible repeat (first | apply Kd.R_alloc | apply Kd.R_drewN | apply Kd.R_drew)); exact HO103.out) hb); have n1_ := Aside0.mk (Kd.R_below (by (with_reducible repeat (first | apply Kd.R_alloc | apply Kd.R_drewN | apply Kd.R_drew)); exact HO106.out) hb); have n2_ := Aside0.mk (Kd.R_lower ho10 (below_size (by repeat (first | (with_reducible first | exact HB.out | apply below_alloc | apply pw_below_drewN | apply below_drew1) | exact HB.out)))); have n3_ := Aside0.mk (below_step (by repeat (first | (with_reducible first | exact HB.out | apply below_alloc | apply pw_below_drewN | apply below_drew1) | exact HB.out)) hb); clear HO103; clear HO106; clear HB; have HO103 := n0_; have HO106 := n1_; have HO109 := n2_; have HB := n3_; clear n0_ n1_ n2_ n3_; clear hb ho10)); try go_wp2_with (first | ((with_reducible refine gate_dst (N := 16) rfl ?_); refine Kd.R_make Kd.bool _ 4 rfl (N := 16) rfl 52 _ _ rfl a0 rfl rfl Try.underlying52 (.bool false) 1 info4 rfl (by decide) (by omega) false (ok := fun _ => True) (okp := fun _ => True) rfl (fun _ hk => hk) trivial (of_decide_eq_true (by first | (with_reducible assumption) | assumption)) (Nat.le_trans (Nat.mul_le_mul_right _ (of_decide_eq_true (by first | (with_reducible assumption) | assumption) : a0.toNat ≤ 281474976710656)) (by omega)) (Below.refl _ _) (Nat.le_refl _) ?_; intro v102 w5 ho6 hb hg_ hnew_; clear hg_ hnew_; (first | rw [← Ny101.out] at ho6 | (simp only [Int.reduceToNat] at ho6; rw [← Ny101.out] at ho6)); have n0_ := Aside0.mk (Kd.R_lower ho6 (below_size (by repeat (first | (with_reducible first | exact HB.out | apply below_alloc | apply pw_below_drewN | apply below_drew1) | exact HB.out)))); have n1_ := Aside0.mk (below_step (by repeat (first | (with_reducible first | exact HB.out | apply below_alloc | apply pw_below_drewN | apply below_drew1) | exact HB.out)) hb); clear HB; have HO103 := n0_; have HB := n1_; clear n0_ n1_; clear hb ho6) | ((with_reducible refine gate_dst (N := 17) rfl ?_); refine Kd.R_lit Kd.string _ 9 ?hg (N := 17) ?hd (xs := ([(⟨#[]⟩ : ByteArray)] : List ByteArray)) (inner := [.string (⟨#[]⟩ : ByteArray)]) (ok := fun _ => True) (okp := fun _ => True) ?hr ?hp (fun _ hk => hk) trivial (Below.refl _ _) (Nat.le_refl _) (by simp) ?_; (case hd => rfl); (case hg => rfl); (case hr => first | (go_simp; done) | (go_simp; rfl)); (case hp => exact (Reps.one (show Kd.M Kd.string _ _ _ (⟨#[]⟩ : ByteArray) [.string (⟨#[]⟩ : ByteArray)] from rfl) (Reps.none _ _))); intro v105 w7 ho8 hb hg_ hnew_; clear hg_ hnew_; (first | rw [← Ny104.out] at ho8 | (simp only [Int.reduceToNat] at ho8; rw [← Ny104.out] at ho8)); have n0_ := Aside0.mk (Kd.R_below (by (with_reducible repeat (first | apply Kd.R_alloc | apply Kd.R_drewN | apply Kd.R_drew)); exact HO103.out) hb); have n1_ := Aside0.mk (Kd.R_lower ho8 (below_size (by repeat (first | (with_reducible first | exact HB.out | apply below_alloc | apply pw_below_drewN | apply below_drew1) | exact HB.out)))); have n2_ := Aside0.mk (below_step (by repeat (first | (with_reducible first | exact HB.out | apply below_alloc | apply pw_below_drewN | apply below_drew1) | exact HB.out)) hb); clear HO103; clear HB; have HO103 := n0_; have HO106 := n1_; have HB := n2_; clear n0_ n1_ n2_; clear hb ho8) | ((with_reducible refine gate_dst (N := 18) rfl ?_); refine Kd.R_lit (Kd.int .i64) _ 3 ?hg (N := 18) ?hd (xs := ([0] : List Int)) (inner := [.int .i64 0]) (ok := fun _ => True) (okp := fun _ => True) ?hr ?hp (fun _ hk => hk) trivial (Below.refl _ _) (Nat.le_refl _) (by simp) ?_; (case hd => rfl); (case hg => rfl); (case hr => first | (go_simp; done) | (go_simp; rfl)); (case hp => exact (Reps.one (show Kd.M (Kd.int .i64) _ _ _ 0 [.int .i64 0] from rfl) (Reps.none _ _))); intro v108 w9 ho10 hb hg_ hnew_; clear hg_ hnew_; (first | rw [← Ny107.out] at ho10 | (simp only [Int.reduceToNat] at ho10; rw [← Ny107.out] at ho10)); have n0_ := Aside0.mk (Kd.R_below (by (with_reducible repeat (first | apply Kd.R_alloc | apply Kd.R_drewN | apply Kd.R_drew)); exact HO103.out) hb); have n1_ := Aside0.mk (Kd.R_below (by (with_reducible repeat (first | apply Kd.R_alloc | apply Kd.R_drewN | apply Kd.R_drew)); exact HO106.out) hb); have n2_ := Aside0.mk (Kd.R_lower ho10 (below_size (by repeat (first | (with_reducible first | exact HB.out | apply below_alloc | apply pw_below_drewN | apply below_drew1) | exact HB.out)))); have n3_ := Aside0.mk (below_step (by repeat (first | (with_reducible first | exact HB.out | apply below_alloc | apply pw_below_drewN | apply below_drew1) | exact HB.out)) hb); clear HO103; clear HO106; clear HB; have HO103 := n0_; have HO106 := n1_; have HO109 := n2_; have HB := n3_; clear n0_ n1_ n2_ n3_; clear hb ho10)))
      go_loopg [7, 8] k (fun kq v7 v8 w' => ∃ (x6_1 : List Bool) (x7_1 : List ByteArray) (x8_1 : List Int), Aside0 (spec_leMultiple.l0 kq a0 a1 x6_1 x7_1 x8_1 = some (r1, r2)) ∧ Aside0 (kq ≤ k) ∧ Aside0 (Kd.R Kd.bool 4 w' w.heap.size (fun _ => True) v102 x6_1) ∧ Aside0 (Kd.R Kd.string 9 w' w.heap.size (fun _ => True) v7 x7_1) ∧ Aside0 (Kd.R (Kd.int .i64) 3 w' w.heap.size (fun _ => True) v8 x8_1) ∧ Aside0 (Below w.heap.size w w'))
      case atStart => exact ⟨(y101), (y104), (y107), H', ⟨Nat.le_refl _⟩, ⟨by (with_reducible repeat (first | apply Kd.R_alloc | apply Kd.R_drewN | apply Kd.R_drew)); exact HO103.out⟩, ⟨by (with_reducible repeat (first | apply Kd.R_alloc | apply Kd.R_drewN | apply Kd.R_drew)); exact HO106.out⟩, ⟨by (with_reducible repeat (first | apply Kd.R_alloc | apply Kd.R_drewN | apply Kd.R_drew)); exact HO109.out⟩, ⟨by repeat (first | (with_reducible first | exact HB.out | apply below_alloc | apply pw_below_drewN | apply below_drew1) | exact HB.out)⟩⟩
      case round =>
        clear H'
        try clear c2
        try clear p2
        try clear c3
        try clear c3b0
        try clear c3b1
        try clear c4
        try clear c4b0
        try clear c4b1
        obtain ⟨x6_1, x7_1, x8_1, HA, HK1, HO_6, HO_7, HO_8, HB⟩ := hrel
        cases gk with
        | zero => exact absurd HA.out (by simp [spec_leMultiple.l0])
        | succ k1 =>
          have H := HA.out
          clear HA
          simp only [spec_leMultiple.l0] at H
          by_cases c11 : (x7_1.length : Int) > 0
          · rw [if_pos c11] at H
            have c11b0 : decide (0 < (x7_1.length : Int)) = true := decide_eq_true c11
            have c11b1 : decide (0 < x7_1.length) = true := decide_eq_true (by omega)
            clear c11
            have H' := Aside0.mk H
            clear H
            obtain ⟨Ao12, co12, eo12⟩ := Kd.R_slice HO_7.out
            subst eo12
            go_wp2
            repeat (go_quiet (fail); try go_wp2)
            go_loopg [9, 10, 24] k1 (fun kq v9 v10 v24 w' => ∃ (x6_2 : List Bool) (x9_2 : List ByteArray) (x10_2 : List Int) (x24_2 : Int), v24 = .int .i64 x24_2 ∧ Aside0 (spec_leMultiple.l1 kq a0 a1 x6_2 x8_1 x9_2 x10_2 x7_1 (x7_1.length : Int) x24_2 = some (r1, r2)) ∧ Aside0 (kq ≤ k1) ∧ Aside0 (Kd.R Kd.bool 4 w' w.heap.size (fun _ => True) v102 x6_2) ∧ Aside0 (Kd.R (Kd.int .i64) 3 w' w.heap.size (fun k_ => some k_ ≠ (v10 : Value).ownBlock) u8 x8_1) ∧ Aside0 (Kd.R Kd.string 9 w' w.heap.size (fun k_ => some k_ ≠ ((.slice Ao12 x7_1.length co12) : Value).ownBlock) v9 x9_2) ∧ Aside0 (Kd.R (Kd.int .i64) 3 w' w.heap.size (fun k_ => some k_ ≠ (u8 : Value).ownBlock) v10 x10_2) ∧ Aside0 (Kd.R Kd.string 9 w' w.heap.size (fun k_ => some k_ ≠ (v9 : Value).ownBlock) (.slice Ao12 x7_1.length co12) x7_1) ∧ Aside0 (Below w.heap.size w w'))
            case atStart => exact ⟨(x6_1), (([] : List ByteArray)), (([] : List Int)), (0), (by first | rfl | (simp; done) | (simp [*]; done)), H', ⟨Nat.le_refl _⟩, ⟨by (with_reducible repeat (first | apply Kd.R_alloc | apply Kd.R_drewN | apply Kd.R_drew)); exact HO_6.out⟩, ⟨by (with_reducible repeat (first | apply Kd.R_alloc | apply Kd.R_drewN | apply Kd.R_drew)); exact Kd.R_mono HO_8.out (fun _ hk => (by simp [Value.ownBlock]))⟩, ⟨by first | exact Kd.R_nil _ _ _ _ _ | exact Kd.N_nil _ _ _ _ _ | exact Kd.V_nil _ _ _ _ _ | exact Kd.Q_nil _ _ _ _ _ | exact Kd.S_nil _ _ _ _ _⟩, ⟨by first | exact Kd.R_nil _ _ _ _ _ | exact Kd.N_nil _ _ _ _ _ | exact Kd.V_nil _ _ _ _ _ | exact Kd.Q_nil _ _ _ _ _ | exact Kd.S_nil _ _ _ _ _⟩, ⟨by (with_reducible repeat (first | apply Kd.R_alloc | apply Kd.R_drewN | apply Kd.R_drew)); exact Kd.R_mono HO_7.out (fun _ hk => (by simp [Value.ownBlock]))⟩, ⟨by repeat (first | (with_reducible first | exact HB.out | apply below_alloc | apply pw_below_drewN | apply below_drew1) | exact HB.out)⟩⟩
            case round =>
              clear H'
              try clear c1
              try clear c2
              try clear p2
              try clear c3
              try clear c3b0
              try clear c3b1
              try clear c4
              try clear c4b0
              try clear c4b1
              try clear c11
              try clear c11b0
              try clear c11b1
              try clear p2
              obtain ⟨x6_2, x9_2, x10_2, x24_2, rfl, HA, HK2, HO_6, HO_8, HO_9, HO_10, HO_22, HB⟩ := hrel
              cases gk with
              | zero => exact absurd HA.out (by simp [spec_leMultiple.l1])
              | succ k2 =>
                have H := HA.out
                clear HA
                simp only [spec_leMultiple.l1] at H
                by_cases c13 : x24_2 < (x7_1.length : Int)
                · rw [if_pos c13] at H
                  have c13b0 : decide (x24_2 < (x7_1.length : Int)) = true := decide_eq_true c13
                  clear c13
                  by_cases c14 : 0 ≤ x24_2
                  · rw [if_pos c14] at H
                    have c14b0 : decide (0 ≤ x24_2) = true := decide_eq_true c14
                    clear c14
                    by_cases c15 : x24_2 < (x7_1.length : Int)
                    · rw [if_pos c15] at H
                      have c15b0 : decide (x24_2 < (x7_1.length : Int)) = true := decide_eq_true c15
                      clear c15
                      have H' := Aside0.mk H
                      clear H
                      have p110 : 0 ≤ (x24_2 : Int) := of_decide_eq_true (by first | (with_reducible assumption) | assumption)
                      have q110 : x24_2 < (x7_1.length : Int) := of_decide_eq_true (by first | (with_reducible assumption) | assumption)
                      obtain ⟨ad110, e110, hx110_0⟩ := Kd.at_string (Kd.R_reads' HO_22.out).2.2 x24_2 p110 q110
                      cases e110
                      replace p110 := eq_true p110
                      replace q110 := eq_true q110
                      go_wp2
                      repeat (go_quiet (fail); try go_wp2)
                      go_loopg [9, 10, 13] k2 (fun kq v9 v10 v13 w' => ∃ (x6_3 : List Bool) (x9_3 : List ByteArray) (x10_3 : List Int) (x13_3 : Int), v13 = .int .i64 x13_3 ∧ Aside0 (spec_leMultiple.l2 kq a0 a1 x6_3 x8_1 x9_3 x10_3 x24_2 (rdOf ByteArray.empty x7_1 x24_2) x13_3 x7_1 (x7_1.length : Int) x24_2 = some (r1, r2)) ∧ Aside0 (kq ≤ k2) ∧ Aside0 (Kd.R Kd.bool 4 w' w.heap.size (fun _ => True) v102 x6_3) ∧ Aside0 (Kd.R (Kd.int .i64) 3 w' w.heap.size (fun k_ => some k_ ≠ (v10 : Value).ownBlock) u8 x8_1) ∧ Aside0 (Kd.R Kd.string 9 w' w.heap.size (fun k_ => some k_ ≠ ((.slice (some ad110) x7_1.length co12) : Value).ownBlock) v9 x9_3) ∧ Aside0 (Kd.R (Kd.int .i64) 3 w' w.heap.size (fun k_ => some k_ ≠ (u8 : Value).ownBlock) v10 x10_3) ∧ Aside0 (Kd.R Kd.string 9 w' w.heap.size (fun k_ => some k_ ≠ (v9 : Value).ownBlock) (.slice (some ad110) x7_1.length co12) x7_1) ∧ Aside0 (Below w.heap.size w w'))
                      case atStart => exact ⟨(x6_2), (x9_2), (x10_2), (0), (by first | rfl | (simp; done) | (simp [*]; done)), H', ⟨Nat.le_refl _⟩, ⟨by (with_reducible repeat (first | apply Kd.R_alloc | apply Kd.R_drewN | apply Kd.R_drew)); exact HO_6.out⟩, ⟨by (with_reducible repeat (first | apply Kd.R_alloc | apply Kd.R_drewN | apply Kd.R_drew)); exact HO_8.out⟩, ⟨by (with_reducible repeat (first | apply Kd.R_alloc | apply Kd.R_drewN | apply Kd.R_drew)); exact HO_9.out⟩, ⟨by (with_reducible repeat (first | apply Kd.R_alloc | apply Kd.R_drewN | apply Kd.R_drew)); exact HO_10.out⟩, ⟨by (with_reducible repeat (first | apply Kd.R_alloc | apply Kd.R_drewN | apply Kd.R_drew)); exact HO_22.out⟩, ⟨by repeat (first | (with_reducible first | exact HB.out | apply below_alloc | apply pw_below_drewN | apply below_drew1) | exact HB.out)⟩⟩
                      case round =>
                        clear H'
                        try clear c1
                        try clear p1
                        try clear q1
                        try clear hx1
                        try clear c2
                        try clear p2
                        try clear c3
                        try clear c3b0
                        try clear c3b1
                        try clear c4
                        try clear c4b0
                        try clear c4b1
                        try clear c11
                        try clear c11b0
                        try clear c11b1
                        try clear p11
                        try clear q11
                        try clear hx11
                        try clear c13
                        try clear c13b0
                        try clear c14
                        try clear c14b0
                        try clear c15
                        try clear c15b0
                        try clear hx110_0
                        try clear p110
                        try clear p2
                        try clear q110
                        obtain ⟨x6_3, x9_3, x10_3, x13_3, rfl, HA, HK3, HO_6, HO_8, HO_9, HO_10, HO_22, HB⟩ := hrel
                        cases gk with
                        | zero => exact absurd HA.out (by simp [spec_leMultiple.l2])
                        | succ k3 =>
                          have H := HA.out
                          clear HA
                          simp only [spec_leMultiple.l2] at H
                          by_cases c16 : x13_3 < (a1.size : Int)
                          · rw [if_pos c16] at H
                            have c16b0 : decide (x13_3 < (a1.size : Int)) = true := decide_eq_true c16
                            clear c16
                            have HC17 := Aside0.mk H
                            clear H
                            go_upto_region 13 with (fail)
                            repeat (go_quiet (fail); go_upto_region 13 with (fail))
                            go_cut [42] (fun v42 wc => ∃ (kq : Nat) (x42_16 : Bool), v42 = .bool x42_16 ∧ Aside0 (spec_leMultiple.j3 kq a0 a1 x6_3 x8_1 x9_3 x10_3 x24_2 (rdOf ByteArray.empty x7_1 x24_2) x13_3 x7_1 (x7_1.length : Int) x24_2 x42_16 = some (r1, r2)) ∧ Aside0 (kq ≤ k3) ∧ Aside0 (Kd.R Kd.bool 4 wc w.heap.size (fun _ => True) v102 x6_3) ∧ Aside0 (Kd.R (Kd.int .i64) 3 wc w.heap.size (fun k_ => some k_ ≠ (u10 : Value).ownBlock) u8 x8_1) ∧ Aside0 (Kd.R Kd.string 9 wc w.heap.size (fun k_ => some k_ ≠ ((.slice (some ad110) x7_1.length co12) : Value).ownBlock) u9 x9_3) ∧ Aside0 (Kd.R (Kd.int .i64) 3 wc w.heap.size (fun k_ => some k_ ≠ (u8 : Value).ownBlock) u10 x10_3) ∧ Aside0 (Kd.R Kd.string 9 wc w.heap.size (fun k_ => some k_ ≠ (u9 : Value).ownBlock) (.slice (some ad110) x7_1.length co12) x7_1) ∧ Aside0 (Below w.heap.size w wc))
                            case first =>
                              have H := HC17.out
                              clear HC17
                              by_cases c18 : (rdOf ByteArray.empty x7_1 x24_2).toList = ([] : List UInt8)
                              · rw [if_pos c18] at H
                                have c18b0 : ((rdOf ByteArray.empty x7_1 x24_2).toList == ([] : List UInt8)) = true := beq_iff_eq.mpr c18
                                have c18b1 : ((rdOf ByteArray.empty x7_1 x24_2).toList != ([] : List UInt8)) = false := bne_eq_false_iff_eq.mpr c18
                                clear c18
                                (first | rw [c18b0] | (simp only [i64_w, i32_w]; rw [c18b0]) | skip)
                                by_cases c19 : 0 ≤ x13_3
                                · rw [if_pos c19] at H
                                  have c19b0 : decide (0 ≤ x13_3) = true := decide_eq_true c19
                                  clear c19
                                  have H' := Aside0.mk H
                                  clear H
                                  have p20 : 0 ≤ (x13_3 : Int) := of_decide_eq_true (by first | (with_reducible assumption) | assumption)
                                  have q20 : x13_3 < (a1.size : Int) := of_decide_eq_true (by first | (with_reducible assumption) | assumption)
                                  have hx20 := bt_at a1 x13_3
                                  replace p20 := eq_true p20
                                  replace q20 := eq_true q20
                                  go_wp2
                                  repeat (go_quiet (fail); try go_wp2)
                                  go_meet
                                  case rel => exact ⟨_, (((bt a1 x13_3) == 48)), (by first | rfl | (simp; done) | (simp [*]; done)), H', ⟨by have := HK1.out; have := HK2.out; have := HK3.out; first | omega | exact Nat.le_refl _⟩, ⟨by (with_reducible repeat (first | apply Kd.R_alloc | apply Kd.R_drewN | apply Kd.R_drew)); exact HO_6.out⟩, ⟨by (with_reducible repeat (first | apply Kd.R_alloc | apply Kd.R_drewN | apply Kd.R_drew)); exact HO_8.out⟩, ⟨by (with_reducible repeat (first | apply Kd.R_alloc | apply Kd.R_drewN | apply Kd.R_drew)); exact HO_9.out⟩, ⟨by (with_reducible repeat (first | apply Kd.R_alloc | apply Kd.R_drewN | apply Kd.R_drew)); exact HO_10.out⟩, ⟨by (with_reducible repeat (first | apply Kd.R_alloc | apply Kd.R_drewN | apply Kd.R_drew)); exact HO_22.out⟩, ⟨by repeat (first | (with_reducible first | exact HB.out | apply below_alloc | apply pw_below_drewN | apply below_drew1) | exact HB.out)⟩⟩
                                · rw [if_neg c19] at H
                                  exact absurd H (by simp)
                              · rw [if_neg c18] at H
                                have c18b0 : ((rdOf ByteArray.empty x7_1 x24_2).toList == ([] : List UInt8)) = false := beq_eq_false_iff_ne.mpr c18
                                have c18b1 : ((rdOf ByteArray.empty x7_1 x24_2).toList != ([] : List UInt8)) = true := bne_iff_ne.mpr c18
                                (first | rw [c18b0] | (simp only [i64_w, i32_w]; rw [c18b0]) | skip)
                                have H' := Aside0.mk H
                                clear H
                                go_wp2
                                repeat (go_quiet (fail); try go_wp2)
                                go_meet
                                case rel => exact ⟨_, (false), (by first | rfl | (simp; done) | (simp [*]; done)), H', ⟨by have := HK1.out; have := HK2.out; have := HK3.out; first | omega | exact Nat.le_refl _⟩, ⟨by (with_reducible repeat (first | apply Kd.R_alloc | apply Kd.R_drewN | apply Kd.R_drew)); exact HO_6.out⟩, ⟨by (with_reducible repeat (first | apply Kd.R_alloc | apply Kd.R_drewN | apply Kd.R_drew)); exact HO_8.out⟩, ⟨by (with_reducible repeat (first | apply Kd.R_alloc | apply Kd.R_drewN | apply Kd.R_drew)); exact HO_9.out⟩, ⟨by (with_reducible repeat (first | apply Kd.R_alloc | apply Kd.R_drewN | apply Kd.R_drew)); exact HO_10.out⟩, ⟨by (with_reducible repeat (first | apply Kd.R_alloc | apply Kd.R_drewN | apply Kd.R_drew)); exact HO_22.out⟩, ⟨by repeat (first | (with_reducible first | exact HB.out | apply below_alloc | apply pw_below_drewN | apply below_drew1) | exact HB.out)⟩⟩
                            case rest =>
                              clear HC17
                              try clear c1
                              try clear p1
                              try clear q1
                              try clear hx1
                              try clear c2
                              try clear p2
                              try clear q2
                              try clear hx2
                              try clear c3
                              try clear c3b0
                              try clear c3b1
                              try clear c4
                              try clear c4b0
                              try clear c4b1
                              try clear c11
                              try clear c11b0
                              try clear c11b1
                              try clear p11
                              try clear q11
                              try clear hx11
                              try clear c13
                              try clear c13b0
                              try clear c14
                              try clear c14b0
                              try clear c15
                              try clear c15b0
                              try clear c16
                              try clear c16b0
                              try clear c18
                              try clear c18b0
                              try clear c18b1
                              try clear c19
                              try clear c19b0
                              try clear p20
                              try clear q20
                              try clear hx20
                              try clear hx110_0
                              try clear p1
                              try clear p11
                              try clear p110
                              try clear p2
                              try clear p20
                              try clear q1
                              try clear q11
                              try clear q110
                              try clear q20
                              obtain ⟨kq, x42_16, rfl, HA, HJ16, HO_6, HO_8, HO_9, HO_10, HO_22, HB⟩ := hcut
                              cases kq with
                              | zero => exact absurd HA.out (by simp [spec_leMultiple.j3])
                              | succ kj16 =>
                                have H := HA.out
                                clear HA
                                simp only [spec_leMultiple.j3] at H
                                by_cases c21 : x42_16 = true
                                · subst c21
                                  have H1 : (spec_leMultiple.l2 kj16 a0 a1 x6_3 x8_1 x9_3 x10_3 x24_2 (rdOf ByteArray.empty x7_1 x24_2) (wrap64 (x13_3 + 1)) x7_1 (x7_1.length : Int) x24_2) = some (r1, r2) := by rw [if_pos rfl] at H; exact H
                                  clear H
                                  have H := H1
                                  clear H1
                                  have H' := Aside0.mk H
                                  clear H
                                  go_wp2
                                  repeat (go_quiet (fail); try go_wp2)
                                  go_roundg kj16
                                  case measure => have := HK1.out; have := HK2.out; have := HK3.out; have := HJ16.out; omega
                                  case rel => exact ⟨(x6_3), (x9_3), (x10_3), (wrap64 (x13_3 + 1)), (by first | rfl | (simp; done) | (simp [*]; done)), H', ⟨by have := HK1.out; have := HK2.out; have := HK3.out; have := HJ16.out; omega⟩, ⟨by (with_reducible repeat (first | apply Kd.R_alloc | apply Kd.R_drewN | apply Kd.R_drew)); exact HO_6.out⟩, ⟨by (with_reducible repeat (first | apply Kd.R_alloc | apply Kd.R_drewN | apply Kd.R_drew)); exact HO_8.out⟩, ⟨by (with_reducible repeat (first | apply Kd.R_alloc | apply Kd.R_drewN | apply Kd.R_drew)); exact HO_9.out⟩, ⟨by (with_reducible repeat (first | apply Kd.R_alloc | apply Kd.R_drewN | apply Kd.R_drew)); exact HO_10.out⟩, ⟨by (with_reducible repeat (first | apply Kd.R_alloc | apply Kd.R_drewN | apply Kd.R_drew)); exact HO_22.out⟩, ⟨by repeat (first | (with_reducible first | exact HB.out | apply below_alloc | apply pw_below_drewN | apply below_drew1) | exact HB.out)⟩⟩
                                · replace c21 := Bool.eq_false_iff.mpr c21
                                  subst c21
                                  have H1 : (if 0 ≤ x24_2 then (if x24_2 < (x8_1.length : Int) then (if 0 ≤ x13_3 then (if x13_3 < (a1.size : Int) then (if a0 = 0 then (none) else (if (Int.tmod (wrap64 ((wrap64 (10 * (rd x8_1 x24_2))) + (((bt a1 x13_3) - 48) % 256))) a0) = 0 then (if x13_3 ≤ (wrap64 (x13_3 + 1)) then (if (wrap64 (x13_3 + 1)) ≤ (a1.size : Int) then (if (rdOf ByteArray.empty x7_1 x24_2).size + (a1.extract (x13_3 : Int).toNat ((wrap64 (x13_3 + 1)) : Int).toNat).size ≤ 9223372036854775807 then (some ((rdOf ByteArray.empty x7_1 x24_2) ++ (a1.extract (x13_3 : Int).toNat ((wrap64 (x13_3 + 1)) : Int).toNat), true)) else (none)) else (none)) else (none)) else (if 0 ≤ (Int.tmod (wrap64 ((wrap64 (10 * (rd x8_1 x24_2))) + (((bt a1 x13_3) - 48) % 256))) a0) then (if (Int.tmod (wrap64 ((wrap64 (10 * (rd x8_1 x24_2))) + (((bt a1 x13_3) - 48) % 256))) a0) < (x6_3.length : Int) then (if (rdOf false x6_3 (Int.tmod (wrap64 ((wrap64 (10 * (rd x8_1 x24_2))) + (((bt a1 x13_3) - 48) % 256))) a0) = true) then (spec_leMultiple.l2 kj16 a0 a1 x6_3 x8_1 x9_3 x10_3 x24_2 (rdOf ByteArray.empty x7_1 x24_2) (wrap64 (x13_3 + 1)) x7_1 (x7_1.length : Int) x24_2) else (if x13_3 ≤ (wrap64 (x13_3 + 1)) then (if (wrap64 (x13_3 + 1)) ≤ (a1.size : Int) then (if (rdOf ByteArray.empty x7_1 x24_2).size + (a1.extract (x13_3 : Int).toNat ((wrap64 (x13_3 + 1)) : Int).toNat).size ≤ 9223372036854775807 then (if x9_3.length < 8796093022208 then (if x10_3.length < 17592186044416 then (spec_leMultiple.l2 kj16 a0 a1 (x6_3.set ((Int.tmod (wrap64 ((wrap64 (10 * (rd x8_1 x24_2))) + (((bt a1 x13_3) - 48) % 256))) a0) : Int).toNat true) x8_1 (x9_3 ++ [(rdOf ByteArray.empty x7_1 x24_2) ++ (a1.extract (x13_3 : Int).toNat ((wrap64 (x13_3 + 1)) : Int).toNat)]) (x10_3 ++ [Int.tmod (wrap64 ((wrap64 (10 * (rd x8_1 x24_2))) + (((bt a1 x13_3) - 48) % 256))) a0]) x24_2 (rdOf ByteArray.empty x7_1 x24_2) (wrap64 (x13_3 + 1)) x7_1 (x7_1.length : Int) x24_2) else (none)) else (none)) else (none)) else (none)) else (none))) else (none)) else (none)))) else (none)) else (none)) else (none)) else (none)) = some (r1, r2) := by rw [if_neg (show ¬ (false = true) by decide)] at H; exact H
                                  clear H
                                  have H := H1
                                  clear H1
                                  by_cases c22 : 0 ≤ x24_2
                                  · rw [if_pos c22] at H
                                    have c22b0 : decide (0 ≤ x24_2) = true := decide_eq_true c22
                                    clear c22
                                    by_cases c23 : x24_2 < (x8_1.length : Int)
                                    · rw [if_pos c23] at H
                                      have c23b0 : decide (x24_2 < (x8_1.length : Int)) = true := decide_eq_true c23
                                      clear c23
                                      by_cases c24 : 0 ≤ x13_3
                                      · rw [if_pos c24] at H
                                        have c24b0 : decide (0 ≤ x13_3) = true := decide_eq_true c24
                                        clear c24
                                        by_cases c25 : x13_3 < (a1.size : Int)
                                        · rw [if_pos c25] at H
                                          have c25b0 : decide (x13_3 < (a1.size : Int)) = true := decide_eq_true c25
                                          clear c25
                                          by_cases c27 : a0 = 0
                                          · rw [if_pos c27] at H
                                            exact absurd H (by simp)
                                          · rw [if_neg c27] at H
                                            have c27b0 : (a0 == 0) = false := beq_eq_false_iff_ne.mpr c27
                                            have c27b1 : (a0 != 0) = true := bne_iff_ne.mpr c27
                                            by_cases c28 : (Int.tmod (wrap64 ((wrap64 (10 * (rd x8_1 x24_2))) + (((bt a1 x13_3) - 48) % 256))) a0) = 0
                                            · rw [if_pos c28] at H
                                              have c28b0 : ((Int.tmod (wrap64 ((wrap64 (10 * (rd x8_1 x24_2))) + (((bt a1 x13_3) - 48) % 256))) a0) == 0) = true := beq_iff_eq.mpr c28
                                              have c28b1 : ((Int.tmod (wrap64 ((wrap64 (10 * (rd x8_1 x24_2))) + (((bt a1 x13_3) - 48) % 256))) a0) != 0) = false := bne_eq_false_iff_eq.mpr c28
                                              clear c28
                                              have c29b0 := eq_true (of_decide_eq_true (by first | (with_reducible assumption) | assumption) : 0 ≤ x13_3)
                                              by_cases c30 : x13_3 ≤ (wrap64 (x13_3 + 1))
                                              · rw [if_pos c30] at H
                                                have c30b0 := eq_true c30
                                                have c30b1 : decide (x13_3 ≤ (wrap64 (x13_3 + 1))) = true := decide_eq_true c30
                                                by_cases c31 : (wrap64 (x13_3 + 1)) ≤ (a1.size : Int)
                                                · rw [if_pos c31] at H
                                                  have c31b0 := eq_true c31
                                                  have c31b1 : decide ((wrap64 (x13_3 + 1)) ≤ (a1.size : Int)) = true := decide_eq_true c31
                                                  by_cases c32 : (rdOf ByteArray.empty x7_1 x24_2).size + (a1.extract (x13_3 : Int).toNat ((wrap64 (x13_3 + 1)) : Int).toNat).size ≤ 9223372036854775807
                                                  · rw [if_pos c32] at H
                                                    have c32b0 := eq_true c32
                                                    have c32b1 : decide ((rdOf ByteArray.empty x7_1 x24_2).size + (a1.extract (x13_3 : Int).toNat ((wrap64 (x13_3 + 1)) : Int).toNat).size ≤ 9223372036854775807) = true := decide_eq_true c32
                                                    try have c32b2 : (9223372036854775807 < (rdOf ByteArray.empty x7_1 x24_2).size + (a1.extract (x13_3 : Int).toNat ((wrap64 (x13_3 + 1)) : Int).toNat).size) = False := eq_false (Nat.not_lt.2 c32)
                                                    simp only [Option.some.injEq, Prod.mk.injEq] at H
                                                    obtain ⟨rfl, rfl⟩ := H
                                                    obtain ⟨Ao33, co33, eo33⟩ := Kd.R_slice HO_8.out
                                                    subst eo33
                                                    have p111 : 0 ≤ (x24_2 : Int) := of_decide_eq_true (by first | (with_reducible assumption) | assumption)
                                                    have q111 : x24_2 < (x8_1.length : Int) := of_decide_eq_true (by first | (with_reducible assumption) | assumption)
                                                    obtain ⟨ad111, e111, hx111_0⟩ := Kd.at_int (Kd.R_reads' HO_8.out).2.2 x24_2 p111 q111
                                                    cases e111
                                                    replace p111 := eq_true p111
                                                    replace q111 := eq_true q111
                                                    have p26 : 0 ≤ (x13_3 : Int) := of_decide_eq_true (by first | (with_reducible assumption) | assumption)
                                                    have q26 : x13_3 < (a1.size : Int) := of_decide_eq_true (by first | (with_reducible assumption) | assumption)
                                                    have hx26 := bt_at a1 x13_3
                                                    replace p26 := eq_true p26
                                                    replace q26 := eq_true q26
                                                    go_wp2
                                                    repeat (go_quiet (fail); try go_wp2)
                                                    go_ret2
                                                    exact ⟨by first | rfl | (simp [errW_none, errW_some] <;> rfl) | (simp [*, errW_none, errW_some] <;> rfl), by repeat (first | (with_reducible first | exact HB.out | apply below_alloc | apply pw_below_drewN | apply below_drew1) | exact HB.out)⟩
                                                  · rw [if_neg c32] at H
                                                    exact absurd H (by simp)
                                                · rw [if_neg c31] at H
                                                  exact absurd H (by simp)
                                              · rw [if_neg c30] at H
                                                exact absurd H (by simp)
                                            · rw [if_neg c28] at H
                                              have c28b0 : ((Int.tmod (wrap64 ((wrap64 (10 * (rd x8_1 x24_2))) + (((bt a1 x13_3) - 48) % 256))) a0) == 0) = false := beq_eq_false_iff_ne.mpr c28
                                              have c28b1 : ((Int.tmod (wrap64 ((wrap64 (10 * (rd x8_1 x24_2))) + (((bt a1 x13_3) - 48) % 256))) a0) != 0) = true := bne_iff_ne.mpr c28
                                              obtain ⟨ji34, hji34⟩ : ∃ j_ : Int, (Int.tmod (wrap64 ((wrap64 (10 * (rd x8_1 x24_2))) + (((bt a1 x13_3) - 48) % 256))) a0) = j_ := ⟨_, rfl⟩
                                              replace H : (if 0 ≤ (ji34) then (if (ji34) < (x6_3.length : Int) then (if (rdOf false x6_3 (ji34) = true) then (spec_leMultiple.l2 kj16 a0 a1 x6_3 x8_1 x9_3 x10_3 x24_2 (rdOf ByteArray.empty x7_1 x24_2) (wrap64 (x13_3 + 1)) x7_1 (x7_1.length : Int) x24_2) else (if x13_3 ≤ (wrap64 (x13_3 + 1)) then (if (wrap64 (x13_3 + 1)) ≤ (a1.size : Int) then (if (rdOf ByteArray.empty x7_1 x24_2).size + (a1.extract (x13_3 : Int).toNat ((wrap64 (x13_3 + 1)) : Int).toNat).size ≤ 9223372036854775807 then (if x9_3.length < 8796093022208 then (if x10_3.length < 17592186044416 then (spec_leMultiple.l2 kj16 a0 a1 (x6_3.set ((ji34) : Int).toNat true) x8_1 (x9_3 ++ [(rdOf ByteArray.empty x7_1 x24_2) ++ (a1.extract (x13_3 : Int).toNat ((wrap64 (x13_3 + 1)) : Int).toNat)]) (x10_3 ++ [ji34]) x24_2 (rdOf ByteArray.empty x7_1 x24_2) (wrap64 (x13_3 + 1)) x7_1 (x7_1.length : Int) x24_2) else (none)) else (none)) else (none)) else (none)) else (none))) else (none)) else (none)) = some (r1, r2) := by first | (rw [hji34] at H; exact H) | (simp only [hji34] at H ⊢; exact H)
                                              (try rw [hji34] at c28b0)
                                              (try rw [hji34] at c28b1)
                                              by_cases c35 : 0 ≤ (ji34)
                                              · rw [if_pos c35] at H
                                                have c35b0 : decide (0 ≤ (ji34)) = true := decide_eq_true c35
                                                clear c35
                                                by_cases c36 : (ji34) < (x6_3.length : Int)
                                                · rw [if_pos c36] at H
                                                  have c36b0 : decide ((ji34) < (x6_3.length : Int)) = true := decide_eq_true c36
                                                  clear c36
                                                  obtain ⟨bq37, hbq37⟩ : ∃ b_ : Bool, b_ = (rdOf false x6_3 (ji34)) := ⟨_, rfl⟩
                                                  replace H : (if (bq37 = true) then (spec_leMultiple.l2 kj16 a0 a1 x6_3 x8_1 x9_3 x10_3 x24_2 (rdOf ByteArray.empty x7_1 x24_2) (wrap64 (x13_3 + 1)) x7_1 (x7_1.length : Int) x24_2) else (if x13_3 ≤ (wrap64 (x13_3 + 1)) then (if (wrap64 (x13_3 + 1)) ≤ (a1.size : Int) then (if (rdOf ByteArray.empty x7_1 x24_2).size + (a1.extract (x13_3 : Int).toNat ((wrap64 (x13_3 + 1)) : Int).toNat).size ≤ 9223372036854775807 then (if x9_3.length < 8796093022208 then (if x10_3.length < 17592186044416 then (spec_leMultiple.l2 kj16 a0 a1 (x6_3.set ((ji34) : Int).toNat true) x8_1 (x9_3 ++ [(rdOf ByteArray.empty x7_1 x24_2) ++ (a1.extract (x13_3 : Int).toNat ((wrap64 (x13_3 + 1)) : Int).toNat)]) (x10_3 ++ [ji34]) x24_2 (rdOf ByteArray.empty x7_1 x24_2) (wrap64 (x13_3 + 1)) x7_1 (x7_1.length : Int) x24_2) else (none)) else (none)) else (none)) else (none)) else (none))) = some (r1, r2) := by rw [← hbq37] at H; exact H
                                                  have Nbq37 := Aside0.mk hbq37
                                                  clear hbq37
                                                  by_cases c38 : (bq37 = true)
                                                  · subst c38
                                                    have H1 : (spec_leMultiple.l2 kj16 a0 a1 x6_3 x8_1 x9_3 x10_3 x24_2 (rdOf ByteArray.empty x7_1 x24_2) (wrap64 (x13_3 + 1)) x7_1 (x7_1.length : Int) x24_2) = some (r1, r2) := by rw [if_pos rfl] at H; exact H
                                                    clear H
                                                    have H := H1
                                                    clear H1
                                                    have H' := Aside0.mk H
                                                    clear H
                                                    obtain ⟨Ao39, co39, eo39⟩ := Kd.R_slice HO_8.out
                                                    subst eo39
                                                    have p111 : 0 ≤ (x24_2 : Int) := of_decide_eq_true (by first | (with_reducible assumption) | assumption)
                                                    have q111 : x24_2 < (x8_1.length : Int) := of_decide_eq_true (by first | (with_reducible assumption) | assumption)
                                                    obtain ⟨ad111, e111, hx111_0⟩ := Kd.at_int (Kd.R_reads' HO_8.out).2.2 x24_2 p111 q111
                                                    cases e111
                                                    replace p111 := eq_true p111
                                                    replace q111 := eq_true q111
                                                    have p26 : 0 ≤ (x13_3 : Int) := of_decide_eq_true (by first | (with_reducible assumption) | assumption)
                                                    have q26 : x13_3 < (a1.size : Int) := of_decide_eq_true (by first | (with_reducible assumption) | assumption)
                                                    have hx26 := bt_at a1 x13_3
                                                    replace p26 := eq_true p26
                                                    replace q26 := eq_true q26
                                                    obtain ⟨Ao40, co40, eo40⟩ := Kd.R_slice HO_6.out
                                                    subst eo40
                                                    have p112 : 0 ≤ ((ji34) : Int) := of_decide_eq_true (by first | (with_reducible assumption) | assumption)
                                                    have q112 : (ji34) < (x6_3.length : Int) := of_decide_eq_true (by first | (with_reducible assumption) | assumption)
                                                    obtain ⟨ad112, e112, hx112_0⟩ := Kd.at_bool (Kd.R_reads' HO_6.out).2.2 (ji34) p112 q112
                                                    (try rw [← Nbq37.out] at hx112_0)
                                                    cases e112
                                                    replace p112 := eq_true p112
                                                    replace q112 := eq_true q112
                                                    go_wp2
                                                    repeat (go_quiet (fail); try go_wp2)
                                                    go_roundg kj16
                                                    case measure => have := HK1.out; have := HK2.out; have := HK3.out; have := HJ16.out; omega
                                                    case rel => exact ⟨(x6_3), (x9_3), (x10_3), (wrap64 (x13_3 + 1)), (by first | rfl | (simp; done) | (simp [*]; done)), H', ⟨by have := HK1.out; have := HK2.out; have := HK3.out; have := HJ16.out; omega⟩, ⟨by (with_reducible repeat (first | apply Kd.R_alloc | apply Kd.R_drewN | apply Kd.R_drew)); exact HO_6.out⟩, ⟨by (with_reducible repeat (first | apply Kd.R_alloc | apply Kd.R_drewN | apply Kd.R_drew)); exact HO_8.out⟩, ⟨by (with_reducible repeat (first | apply Kd.R_alloc | apply Kd.R_drewN | apply Kd.R_drew)); exact HO_9.out⟩, ⟨by (with_reducible repeat (first | apply Kd.R_alloc | apply Kd.R_drewN | apply Kd.R_drew)); exact HO_10.out⟩, ⟨by (with_reducible repeat (first | apply Kd.R_alloc | apply Kd.R_drewN | apply Kd.R_drew)); exact HO_22.out⟩, ⟨by repeat (first | (with_reducible first | exact HB.out | apply below_alloc | apply pw_below_drewN | apply below_drew1) | exact HB.out)⟩⟩
                                                  · replace c38 := Bool.eq_false_iff.mpr c38
                                                    subst c38
                                                    have H1 : (if x13_3 ≤ (wrap64 (x13_3 + 1)) then (if (wrap64 (x13_3 + 1)) ≤ (a1.size : Int) then (if (rdOf ByteArray.empty x7_1 x24_2).size + (a1.extract (x13_3 : Int).toNat ((wrap64 (x13_3 + 1)) : Int).toNat).size ≤ 9223372036854775807 then (if x9_3.length < 8796093022208 then (if x10_3.length < 17592186044416 then (spec_leMultiple.l2 kj16 a0 a1 (x6_3.set ((ji34) : Int).toNat true) x8_1 (x9_3 ++ [(rdOf ByteArray.empty x7_1 x24_2) ++ (a1.extract (x13_3 : Int).toNat ((wrap64 (x13_3 + 1)) : Int).toNat)]) (x10_3 ++ [ji34]) x24_2 (rdOf ByteArray.empty x7_1 x24_2) (wrap64 (x13_3 + 1)) x7_1 (x7_1.length : Int) x24_2) else (none)) else (none)) else (none)) else (none)) else (none)) = some (r1, r2) := by rw [if_neg (show ¬ (false = true) by decide)] at H; exact H
                                                    clear H
                                                    have H := H1
                                                    clear H1
                                                    obtain ⟨y113, hy113⟩ : ∃ y_ : List Bool, y_ = (x6_3.set ((ji34) : Int).toNat true) := ⟨_, rfl⟩
                                                    replace H : (if x13_3 ≤ (wrap64 (x13_3 + 1)) then (if (wrap64 (x13_3 + 1)) ≤ (a1.size : Int) then (if (rdOf ByteArray.empty x7_1 x24_2).size + (a1.extract (x13_3 : Int).toNat ((wrap64 (x13_3 + 1)) : Int).toNat).size ≤ 9223372036854775807 then (if x9_3.length < 8796093022208 then (if x10_3.length < 17592186044416 then (spec_leMultiple.l2 kj16 a0 a1 y113 x8_1 (x9_3 ++ [(rdOf ByteArray.empty x7_1 x24_2) ++ (a1.extract (x13_3 : Int).toNat ((wrap64 (x13_3 + 1)) : Int).toNat)]) (x10_3 ++ [ji34]) x24_2 (rdOf ByteArray.empty x7_1 x24_2) (wrap64 (x13_3 + 1)) x7_1 (x7_1.length : Int) x24_2) else (none)) else (none)) else (none)) else (none)) else (none)) = some (r1, r2) := by first | (rw [hy113]; with_reducible exact H) | (have H2_ := (Option.bind_some _ _).symm.trans H; rw [hy113]; with_reducible exact H2_) | (have H2_ := (Option.bind_some _ _).symm.trans H; with_reducible exact H2_) | with_reducible exact H | (rw [hy113]; exact H) | exact H
                                                    have Ny113 := Aside0.mk hy113
                                                    clear hy113
                                                    have c42b0 := eq_true (of_decide_eq_true (by first | (with_reducible assumption) | assumption) : 0 ≤ x13_3)
                                                    by_cases c43 : x13_3 ≤ (wrap64 (x13_3 + 1))
                                                    · rw [if_pos c43] at H
                                                      have c43b0 := eq_true c43
                                                      have c43b1 : decide (x13_3 ≤ (wrap64 (x13_3 + 1))) = true := decide_eq_true c43
                                                      by_cases c44 : (wrap64 (x13_3 + 1)) ≤ (a1.size : Int)
                                                      · rw [if_pos c44] at H
                                                        have c44b0 := eq_true c44
                                                        have c44b1 : decide ((wrap64 (x13_3 + 1)) ≤ (a1.size : Int)) = true := decide_eq_true c44
                                                        by_cases c45 : (rdOf ByteArray.empty x7_1 x24_2).size + (a1.extract (x13_3 : Int).toNat ((wrap64 (x13_3 + 1)) : Int).toNat).size ≤ 9223372036854775807
                                                        · rw [if_pos c45] at H
                                                          have c45b0 := eq_true c45
                                                          have c45b1 : decide ((rdOf ByteArray.empty x7_1 x24_2).size + (a1.extract (x13_3 : Int).toNat ((wrap64 (x13_3 + 1)) : Int).toNat).size ≤ 9223372036854775807) = true := decide_eq_true c45
                                                          try have c45b2 : (9223372036854775807 < (rdOf ByteArray.empty x7_1 x24_2).size + (a1.extract (x13_3 : Int).toNat ((wrap64 (x13_3 + 1)) : Int).toNat).size) = False := eq_false (Nat.not_lt.2 c45)
                                                          by_cases c46 : x9_3.length < 8796093022208
                                                          · rw [if_pos c46] at H
                                                            have LMc46 := Aside0.mk c46
                                                            clear c46
                                                            obtain ⟨y114, hy114⟩ : ∃ y_ : List ByteArray, y_ = (x9_3 ++ [(rdOf ByteArray.empty x7_1 x24_2) ++ (a1.extract (x13_3 : Int).toNat ((wrap64 (x13_3 + 1)) : Int).toNat)]) := ⟨_, rfl⟩
                                                            replace H : (if x10_3.length < 17592186044416 then (spec_leMultiple.l2 kj16 a0 a1 y113 x8_1 y114 (x10_3 ++ [ji34]) x24_2 (rdOf ByteArray.empty x7_1 x24_2) (wrap64 (x13_3 + 1)) x7_1 (x7_1.length : Int) x24_2) else (none)) = some (r1, r2) := by first | (rw [hy114]; with_reducible exact H) | (have H2_ := (Option.bind_some _ _).symm.trans H; rw [hy114]; with_reducible exact H2_) | (have H2_ := (Option.bind_some _ _).symm.trans H; with_reducible exact H2_) | with_reducible exact H | (rw [hy114]; exact H) | exact H
                                                            have Ny114 := Aside0.mk hy114
                                                            clear hy114
                                                            by_cases c47 : x10_3.length < 17592186044416
                                                            · rw [if_pos c47] at H
                                                              have LMc47 := Aside0.mk c47
                                                              clear c47
                                                              obtain ⟨y117, hy117⟩ : ∃ y_ : List Int, y_ = (x10_3 ++ [ji34]) := ⟨_, rfl⟩
                                                              replace H : (spec_leMultiple.l2 kj16 a0 a1 y113 x8_1 y114 y117 x24_2 (rdOf ByteArray.empty x7_1 x24_2) (wrap64 (x13_3 + 1)) x7_1 (x7_1.length : Int) x24_2) = some (r1, r2) := by first | (rw [hy117]; with_reducible exact H) | (have H2_ := (Option.bind_some _ _).symm.trans H; rw [hy117]; with_reducible exact H2_) | (have H2_ := (Option.bind_some _ _).symm.trans H; with_reducible exact H2_) | with_reducible exact H | (rw [hy117]; exact H) | exact H
                                                              have Ny117 := Aside0.mk hy117
                                                              clear hy117
                                                              have H' := Aside0.mk H
                                                              clear H
                                                              obtain ⟨Ao48, co48, eo48⟩ := Kd.R_slice HO_8.out
                                                              subst eo48
                                                              have p111 : 0 ≤ (x24_2 : Int) := of_decide_eq_true (by first | (with_reducible assumption) | assumption)
                                                              have q111 : x24_2 < (x8_1.length : Int) := of_decide_eq_true (by first | (with_reducible assumption) | assumption)
                                                              obtain ⟨ad111, e111, hx111_0⟩ := Kd.at_int (Kd.R_reads' HO_8.out).2.2 x24_2 p111 q111
                                                              cases e111
                                                              replace p111 := eq_true p111
                                                              replace q111 := eq_true q111
                                                              have p26 : 0 ≤ (x13_3 : Int) := of_decide_eq_true (by first | (with_reducible assumption) | assumption)
                                                              have q26 : x13_3 < (a1.size : Int) := of_decide_eq_true (by first | (with_reducible assumption) | assumption)
                                                              have hx26 := bt_at a1 x13_3
                                                              replace p26 := eq_true p26
                                                              replace q26 := eq_true q26
                                                              obtain ⟨Ao49, co49, eo49⟩ := Kd.R_slice HO_6.out
                                                              subst eo49
                                                              have p112 : 0 ≤ ((ji34) : Int) := of_decide_eq_true (by first | (with_reducible assumption) | assumption)
                                                              have q112 : (ji34) < (x6_3.length : Int) := of_decide_eq_true (by first | (with_reducible assumption) | assumption)
                                                              obtain ⟨ad112, e112, hx112_0⟩ := Kd.at_bool (Kd.R_reads' HO_6.out).2.2 (ji34) p112 q112
                                                              (try rw [← Nbq37.out] at hx112_0)
                                                              cases e112
                                                              replace p112 := eq_true p112
                                                              replace q112 := eq_true q112
                                                              have p41 : 0 ≤ ((ji34) : Int) := of_decide_eq_true (by first | (with_reducible assumption) | assumption)
                                                              have q41 : ((ji34) : Int) < ((x6_3.length : Int) : Int) := of_decide_eq_true (by first | (with_reducible assumption) | assumption)
                                                              obtain ⟨go41, co41, eo41, gb41, gl41, cl41, HG41⟩ := Kd.R_form HO_6.out (by omega)
                                                              (first | cases eo41 | (injection eo41 with ea_ en_ ec_; (first | subst ea_ | (injection ea_ with ea_; subst ea_)); subst ec_; clear en_))
                                                              have GB41 := Aside0.mk gb41
                                                              have GG41 := Aside0.mk HG41
                                                              clear gb41 gl41 HG41
                                                              (first | simp only [add_plain] at hx112_0 | skip)
                                                              obtain ⟨hx41_0, hf41_0⟩ := Kd.R_celln false HO_6.out ((ji34) : Int) p41 q41
                                                              replace p41 := eq_true p41
                                                              replace q41 := eq_true q41
                                                              have HP50 := Kd.R_putg HO_6.out ((ji34) : Int) true
                                                              go_wp2_with (first | ((with_reducible refine gate_store (t := 4) (p := 72) rfl ?_); (try (rw [drewN_self wc]; generalize hq_ : World.drewN wc _ = wc; have n0_ := Aside0.mk (Kd.R_at hq_ HO_6.out); have n1_ := Aside0.mk (Kd.R_at hq_ HO_8.out); have n2_ := Aside0.mk (Kd.R_at hq_ HO_9.out); have n3_ := Aside0.mk (Kd.R_at hq_ HO_10.out); have n4_ := Aside0.mk (Kd.R_at hq_ HO_22.out); have n5_ := Aside0.mk (below_at hq_ HB.out); clear hq_ HO_6 HO_8 HO_9 HO_10 HO_22 HB; have HO_6 := n0_; have HO_8 := n1_; have HO_9 := n2_; have HO_10 := n3_; have HO_22 := n4_; have HB := n5_; clear n0_ n1_ n2_ n3_ n4_ n5_; (try (have HP50 := Kd.R_putg HO_6.out ((ji34) : Int) true)); (try (obtain ⟨hx41_0, hf41_0⟩ := Kd.R_celln false HO_6.out ((ji34) : Int) (of_eq_true p41) (of_eq_true q41))))); refine store_event (t := 4) (p := 72) (v := ?vo_w51) (w1 := (wc.setCell ⟨go41, ((ji34) : Int).toNat, none⟩ (.bool true))) ?hg ?ho ?hn ?hr ?_; (case ho => rfl); (case hg => rfl); (case hn => rfl); (case hr => first | (go_simp; done) | (go_simp; rfl)); intro w51 hw; have hg : wc.grownBy w51 (some go41) := (by rw [hw]; exact HP50.2); have hp_ : Kd.R Kd.bool 4 w51 w.heap.size (fun _ => True) (.slice (some ⟨go41, 0, none⟩) x6_3.length co49) y113 := (by rw [hw, Ny113.out]; exact HP50.1); clear HP50; have n0_ := Aside0.mk (hp_); have n1_ := Aside0.mk (Kd.R_over' (v := (.slice (some ⟨go41, 0, none⟩) x6_3.length co49)) (by (with_reducible repeat (first | apply Kd.R_alloc | apply Kd.R_drewN | apply Kd.R_drew)); exact HO_8.out) (Kd.R_typed HO_6.out) (by decide) hg); have n2_ := Aside0.mk (Kd.R_over' (v := (.slice (some ⟨go41, 0, none⟩) x6_3.length co49)) (by (with_reducible repeat (first | apply Kd.R_alloc | apply Kd.R_drewN | apply Kd.R_drew)); exact HO_9.out) (Kd.R_typed HO_6.out) (by decide) hg); have n3_ := Aside0.mk (Kd.R_over' (v := (.slice (some ⟨go41, 0, none⟩) x6_3.length co49)) (by (with_reducible repeat (first | apply Kd.R_alloc | apply Kd.R_drewN | apply Kd.R_drew)); exact HO_10.out) (Kd.R_typed HO_6.out) (by decide) hg); have n4_ := Aside0.mk (Kd.R_over' (v := (.slice (some ⟨go41, 0, none⟩) x6_3.length co49)) (by (with_reducible repeat (first | apply Kd.R_alloc | apply Kd.R_drewN | apply Kd.R_drew)); exact HO_22.out) (Kd.R_typed HO_6.out) (by decide) hg); have n5_ := Aside0.mk ((by rw [hw]; exact below_set (HB.out) GB41.out : Below w.heap.size w w51)); clear HO_6; clear HO_8; clear HO_9; clear HO_10; clear HO_22; clear HB; have HO_6 := n0_; have HO_8 := n1_; have HO_9 := n2_; have HO_10 := n3_; have HO_22 := n4_; have HB := n5_; clear n0_ n1_ n2_ n3_ n4_ n5_; clear hg hw hp_) | ((with_reducible refine gate_builtin (b := .append) (xs := #[.tmp 73, .tmp 81]) rfl ?_); at_builtin; refine Kd.R_append Kd.string (w0 := w) w.heap.size rfl (.tmp 73) (.tmp 81) 38 9 (.string ⟨#[]⟩) 16 rfl Try.underlying38 info9 rfl (by decide) (by omega) u9 x9_3 ((rdOf ByteArray.empty x7_1 x24_2) ++ (a1.extract (x13_3 : Int).toNat ((wrap64 (x13_3 + 1)) : Int).toNat)) [.string ((rdOf ByteArray.empty x7_1 x24_2) ++ (a1.extract (x13_3 : Int).toNat ((wrap64 (x13_3 + 1)) : Int).toNat))] (fun k_ => some k_ ≠ (.slice (some ad110) x7_1.length co12 : Value).ownBlock) (fun _ => False) rfl rfl ?aP (fun _ hk => hk.elim) ?aF ?aO ?aB ?aS ?aL ?_; (case aP => exact rfl); (case aB => exact (by repeat (first | (with_reducible first | exact HB.out | apply below_alloc | apply pw_below_drewN | apply below_drew1) | exact HB.out))); (case aF => exact (fun k_ hk => Kd.fresh' (Kd.R_lt (by (with_reducible repeat (first | apply Kd.R_alloc | apply Kd.R_drewN | apply Kd.R_drew)); exact HO_22.out)) k_ hk)); (case aO => exact (by (with_reducible repeat (first | apply Kd.R_alloc | apply Kd.R_drewN | apply Kd.R_drew)); exact HO_9.out)); (case aS => exact (below_size (by repeat (first | (with_reducible first | exact HB.out | apply below_alloc | apply pw_below_drewN | apply below_drew1) | exact HB.out)))); (case aL => have := LMc46.out; omega); intro v115 w52 ho hb hg hat; rw [← Ny114.out] at ho; have n0_ := Aside0.mk (Kd.R_over' (by (with_reducible repeat (first | apply Kd.R_alloc | apply Kd.R_drewN | apply Kd.R_drew)); exact HO_6.out) (Kd.R_typed (by (with_reducible repeat (first | apply Kd.R_alloc | apply Kd.R_drewN | apply Kd.R_drew)); exact HO_9.out)) (by decide) hg); have n1_ := Aside0.mk (Kd.R_over' (by (with_reducible repeat (first | apply Kd.R_alloc | apply Kd.R_drewN | apply Kd.R_drew)); exact HO_8.out) (Kd.R_typed (by (with_reducible repeat (first | apply Kd.R_alloc | apply Kd.R_drewN | apply Kd.R_drew)); exact HO_9.out)) (by decide) hg); have n2_ := Aside0.mk (Kd.R_over' (by (with_reducible repeat (first | apply Kd.R_alloc | apply Kd.R_drewN | apply Kd.R_drew)); exact HO_10.out) (Kd.R_typed (by (with_reducible repeat (first | apply Kd.R_alloc | apply Kd.R_drewN | apply Kd.R_drew)); exact HO_9.out)) (by decide) hg); have n3_ := Aside0.mk (Kd.R_after (ok := (fun _ => True)) (by (with_reducible repeat (first | apply Kd.R_alloc | apply Kd.R_drewN | apply Kd.R_drew)); exact Kd.R_mono HO_22.out (fun _ hk => ⟨trivial, hk⟩)) hg hat); have n4_ := Aside0.mk (hb); have n5_ := Aside0.mk (ho); clear HO_6; clear HO_8; clear HO_10; clear HO_22; clear HB; clear HO_9; have HO_6 := n0_; have HO_8 := n1_; have HO_10 := n2_; have HO_22 := n3_; have HB := n4_; have HO116 := n5_; clear n0_ n1_ n2_ n3_ n4_ n5_; clear ho hb hg hat) | ((with_reducible refine gate_builtin (b := .append) (xs := #[.tmp 83, .tmp 85]) rfl ?_); at_builtin; refine Kd.R_append (Kd.int .i64) (w0 := w) w.heap.size rfl (.tmp 83) (.tmp 85) 53 3 (.int .i64 0) 8 rfl Try.underlying53 info3 rfl (by decide) (by omega) u10 x10_3 ji34 [.int .i64 ji34] (fun k_ => some k_ ≠ (.slice (some ad111) x8_1.length co48 : Value).ownBlock) (fun _ => False) rfl rfl ?aP (fun _ hk => hk.elim) ?aF ?aO ?aB ?aS ?aL ?_; (case aP => exact rfl); (case aB => exact (by repeat (first | (with_reducible first | exact HB.out | apply below_alloc | apply pw_below_drewN | apply below_drew1) | exact HB.out))); (case aF => exact (fun k_ hk => Kd.fresh' (Kd.R_lt (by (with_reducible repeat (first | apply Kd.R_alloc | apply Kd.R_drewN | apply Kd.R_drew)); exact HO_8.out)) k_ hk)); (case aO => exact (by (with_reducible repeat (first | apply Kd.R_alloc | apply Kd.R_drewN | apply Kd.R_drew)); exact HO_10.out)); (case aS => exact (below_size (by repeat (first | (with_reducible first | exact HB.out | apply below_alloc | apply pw_below_drewN | apply below_drew1) | exact HB.out)))); (case aL => have := LMc47.out; omega); intro v118 w53 ho hb hg hat; rw [← Ny117.out] at ho; have n0_ := Aside0.mk (Kd.R_over' (by (with_reducible repeat (first | apply Kd.R_alloc | apply Kd.R_drewN | apply Kd.R_drew)); exact HO_6.out) (Kd.R_typed (by (with_reducible repeat (first | apply Kd.R_alloc | apply Kd.R_drewN | apply Kd.R_drew)); exact HO_10.out)) (by decide) hg); have n1_ := Aside0.mk (Kd.R_after (ok := (fun _ => True)) (by (with_reducible repeat (first | apply Kd.R_alloc | apply Kd.R_drewN | apply Kd.R_drew)); exact Kd.R_mono HO_8.out (fun _ hk => ⟨trivial, hk⟩)) hg hat); have n2_ := Aside0.mk (Kd.R_over' (by (with_reducible repeat (first | apply Kd.R_alloc | apply Kd.R_drewN | apply Kd.R_drew)); exact HO_22.out) (Kd.R_typed (by (with_reducible repeat (first | apply Kd.R_alloc | apply Kd.R_drewN | apply Kd.R_drew)); exact HO_10.out)) (by decide) hg); have n3_ := Aside0.mk (Kd.R_over' (by (with_reducible repeat (first | apply Kd.R_alloc | apply Kd.R_drewN | apply Kd.R_drew)); exact HO116.out) (Kd.R_typed (by (with_reducible repeat (first | apply Kd.R_alloc | apply Kd.R_drewN | apply Kd.R_drew)); exact HO_10.out)) (by decide) hg); have n4_ := Aside0.mk (hb); have n5_ := Aside0.mk (ho); clear HO_6; clear HO_8; clear HO_22; clear HO116; clear HB; clear HO_10; have HO_6 := n0_; have HO_8 := n1_; have HO_22 := n2_; have HO116 := n3_; have HB := n4_; have HO119 := n5_; clear n0_ n1_ n2_ n3_ n4_ n5_; clear ho hb hg hat))
                                                              repeat (go_quiet (first | ((with_reducible refine gate_store (t := 4) (p := 72) rfl ?_); (try (rw [drewN_self wc]; generalize hq_ : World.drewN wc _ = wc; have n0_ := Aside0.mk (Kd.R_at hq_ HO_6.out); have n1_ := Aside0.mk (Kd.R_at hq_ HO_8.out); have n2_ := Aside0.mk (Kd.R_at hq_ HO_9.out); have n3_ := Aside0.mk (Kd.R_at hq_ HO_10.out); have n4_ := Aside0.mk (Kd.R_at hq_ HO_22.out); have n5_ := Aside0.mk (below_at hq_ HB.out); clear hq_ HO_6 HO_8 HO_9 HO_10 HO_22 HB; have HO_6 := n0_; have HO_8 := n1_; have HO_9 := n2_; have HO_10 := n3_; have HO_22 := n4_; have HB := n5_; clear n0_ n1_ n2_ n3_ n4_ n5_; (try (have HP50 := Kd.R_putg HO_6.out ((ji34) : Int) true)); (try (obtain ⟨hx41_0, hf41_0⟩ := Kd.R_celln false HO_6.out ((ji34) : Int) (of_eq_true p41) (of_eq_true q41))))); refine store_event (t := 4) (p := 72) (v := ?vo_w51) (w1 := (wc.setCell ⟨go41, ((ji34) : Int).toNat, none⟩ (.bool true))) ?hg ?ho ?hn ?hr ?_; (case ho => rfl); (case hg => rfl); (case hn => rfl); (case hr => first | (go_simp; done) | (go_simp; rfl)); intro w51 hw; have hg : wc.grownBy w51 (some go41) := (by rw [hw]; exact HP50.2); have hp_ : Kd.R Kd.bool 4 w51 w.heap.size (fun _ => True) (.slice (some ⟨go41, 0, none⟩) x6_3.length co49) y113 := (by rw [hw, Ny113.out]; exact HP50.1); clear HP50; have n0_ := Aside0.mk (hp_); have n1_ := Aside0.mk (Kd.R_over' (v := (.slice (some ⟨go41, 0, none⟩) x6_3.length co49)) (by (with_reducible repeat (first | apply Kd.R_alloc | apply Kd.R_drewN | apply Kd.R_drew)); exact HO_8.out) (Kd.R_typed HO_6.out) (by decide) hg); have n2_ := Aside0.mk (Kd.R_over' (v := (.slice (some ⟨go41, 0, none⟩) x6_3.length co49)) (by (with_reducible repeat (first | apply Kd.R_alloc | apply Kd.R_drewN | apply Kd.R_drew)); exact HO_9.out) (Kd.R_typed HO_6.out) (by decide) hg); have n3_ := Aside0.mk (Kd.R_over' (v := (.slice (some ⟨go41, 0, none⟩) x6_3.length co49)) (by (with_reducible repeat (first | apply Kd.R_alloc | apply Kd.R_drewN | apply Kd.R_drew)); exact HO_10.out) (Kd.R_typed HO_6.out) (by decide) hg); have n4_ := Aside0.mk (Kd.R_over' (v := (.slice (some ⟨go41, 0, none⟩) x6_3.length co49)) (by (with_reducible repeat (first | apply Kd.R_alloc | apply Kd.R_drewN | apply Kd.R_drew)); exact HO_22.out) (Kd.R_typed HO_6.out) (by decide) hg); have n5_ := Aside0.mk ((by rw [hw]; exact below_set (HB.out) GB41.out : Below w.heap.size w w51)); clear HO_6; clear HO_8; clear HO_9; clear HO_10; clear HO_22; clear HB; have HO_6 := n0_; have HO_8 := n1_; have HO_9 := n2_; have HO_10 := n3_; have HO_22 := n4_; have HB := n5_; clear n0_ n1_ n2_ n3_ n4_ n5_; clear hg hw hp_) | ((with_reducible refine gate_builtin (b := .append) (xs := #[.tmp 73, .tmp 81]) rfl ?_); at_builtin; refine Kd.R_append Kd.string (w0 := w) w.heap.size rfl (.tmp 73) (.tmp 81) 38 9 (.string ⟨#[]⟩) 16 rfl Try.underlying38 info9 rfl (by decide) (by omega) u9 x9_3 ((rdOf ByteArray.empty x7_1 x24_2) ++ (a1.extract (x13_3 : Int).toNat ((wrap64 (x13_3 + 1)) : Int).toNat)) [.string ((rdOf ByteArray.empty x7_1 x24_2) ++ (a1.extract (x13_3 : Int).toNat ((wrap64 (x13_3 + 1)) : Int).toNat))] (fun k_ => some k_ ≠ (.slice (some ad110) x7_1.length co12 : Value).ownBlock) (fun _ => False) rfl rfl ?aP (fun _ hk => hk.elim) ?aF ?aO ?aB ?aS ?aL ?_; (case aP => exact rfl); (case aB => exact (by repeat (first | (with_reducible first | exact HB.out | apply below_alloc | apply pw_below_drewN | apply below_drew1) | exact HB.out))); (case aF => exact (fun k_ hk => Kd.fresh' (Kd.R_lt (by (with_reducible repeat (first | apply Kd.R_alloc | apply Kd.R_drewN | apply Kd.R_drew)); exact HO_22.out)) k_ hk)); (case aO => exact (by (with_reducible repeat (first | apply Kd.R_alloc | apply Kd.R_drewN | apply Kd.R_drew)); exact HO_9.out)); (case aS => exact (below_size (by repeat (first | (with_reducible first | exact HB.out | apply below_alloc | apply pw_below_drewN | apply below_drew1) | exact HB.out)))); (case aL => have := LMc46.out; omega); intro v115 w52 ho hb hg hat; rw [← Ny114.out] at ho; have n0_ := Aside0.mk (Kd.R_over' (by (with_reducible repeat (first | apply Kd.R_alloc | apply Kd.R_drewN | apply Kd.R_drew)); exact HO_6.out) (Kd.R_typed (by (with_reducible repeat (first | apply Kd.R_alloc | apply Kd.R_drewN | apply Kd.R_drew)); exact HO_9.out)) (by decide) hg); have n1_ := Aside0.mk (Kd.R_over' (by (with_reducible repeat (first | apply Kd.R_alloc | apply Kd.R_drewN | apply Kd.R_drew)); exact HO_8.out) (Kd.R_typed (by (with_reducible repeat (first | apply Kd.R_alloc | apply Kd.R_drewN | apply Kd.R_drew)); exact HO_9.out)) (by decide) hg); have n2_ := Aside0.mk (Kd.R_over' (by (with_reducible repeat (first | apply Kd.R_alloc | apply Kd.R_drewN | apply Kd.R_drew)); exact HO_10.out) (Kd.R_typed (by (with_reducible repeat (first | apply Kd.R_alloc | apply Kd.R_drewN | apply Kd.R_drew)); exact HO_9.out)) (by decide) hg); have n3_ := Aside0.mk (Kd.R_after (ok := (fun _ => True)) (by (with_reducible repeat (first | apply Kd.R_alloc | apply Kd.R_drewN | apply Kd.R_drew)); exact Kd.R_mono HO_22.out (fun _ hk => ⟨trivial, hk⟩)) hg hat); have n4_ := Aside0.mk (hb); have n5_ := Aside0.mk (ho); clear HO_6; clear HO_8; clear HO_10; clear HO_22; clear HB; clear HO_9; have HO_6 := n0_; have HO_8 := n1_; have HO_10 := n2_; have HO_22 := n3_; have HB := n4_; have HO116 := n5_; clear n0_ n1_ n2_ n3_ n4_ n5_; clear ho hb hg hat) | ((with_reducible refine gate_builtin (b := .append) (xs := #[.tmp 83, .tmp 85]) rfl ?_); at_builtin; refine Kd.R_append (Kd.int .i64) (w0 := w) w.heap.size rfl (.tmp 83) (.tmp 85) 53 3 (.int .i64 0) 8 rfl Try.underlying53 info3 rfl (by decide) (by omega) u10 x10_3 ji34 [.int .i64 ji34] (fun k_ => some k_ ≠ (.slice (some ad111) x8_1.length co48 : Value).ownBlock) (fun _ => False) rfl rfl ?aP (fun _ hk => hk.elim) ?aF ?aO ?aB ?aS ?aL ?_; (case aP => exact rfl); (case aB => exact (by repeat (first | (with_reducible first | exact HB.out | apply below_alloc | apply pw_below_drewN | apply below_drew1) | exact HB.out))); (case aF => exact (fun k_ hk => Kd.fresh' (Kd.R_lt (by (with_reducible repeat (first | apply Kd.R_alloc | apply Kd.R_drewN | apply Kd.R_drew)); exact HO_8.out)) k_ hk)); (case aO => exact (by (with_reducible repeat (first | apply Kd.R_alloc | apply Kd.R_drewN | apply Kd.R_drew)); exact HO_10.out)); (case aS => exact (below_size (by repeat (first | (with_reducible first | exact HB.out | apply below_alloc | apply pw_below_drewN | apply below_drew1) | exact HB.out)))); (case aL => have := LMc47.out; omega); intro v118 w53 ho hb hg hat; rw [← Ny117.out] at ho; have n0_ := Aside0.mk (Kd.R_over' (by (with_reducible repeat (first | apply Kd.R_alloc | apply Kd.R_drewN | apply Kd.R_drew)); exact HO_6.out) (Kd.R_typed (by (with_reducible repeat (first | apply Kd.R_alloc | apply Kd.R_drewN | apply Kd.R_drew)); exact HO_10.out)) (by decide) hg); have n1_ := Aside0.mk (Kd.R_after (ok := (fun _ => True)) (by (with_reducible repeat (first | apply Kd.R_alloc | apply Kd.R_drewN | apply Kd.R_drew)); exact Kd.R_mono HO_8.out (fun _ hk => ⟨trivial, hk⟩)) hg hat); have n2_ := Aside0.mk (Kd.R_over' (by (with_reducible repeat (first | apply Kd.R_alloc | apply Kd.R_drewN | apply Kd.R_drew)); exact HO_22.out) (Kd.R_typed (by (with_reducible repeat (first | apply Kd.R_alloc | apply Kd.R_drewN | apply Kd.R_drew)); exact HO_10.out)) (by decide) hg); have n3_ := Aside0.mk (Kd.R_over' (by (with_reducible repeat (first | apply Kd.R_alloc | apply Kd.R_drewN | apply Kd.R_drew)); exact HO116.out) (Kd.R_typed (by (with_reducible repeat (first | apply Kd.R_alloc | apply Kd.R_drewN | apply Kd.R_drew)); exact HO_10.out)) (by decide) hg); have n4_ := Aside0.mk (hb); have n5_ := Aside0.mk (ho); clear HO_6; clear HO_8; clear HO_22; clear HO116; clear HB; clear HO_10; have HO_6 := n0_; have HO_8 := n1_; have HO_22 := n2_; have HO116 := n3_; have HB := n4_; have HO119 := n5_; clear n0_ n1_ n2_ n3_ n4_ n5_; clear ho hb hg hat)); try go_wp2_with (first | ((with_reducible refine gate_store (t := 4) (p := 72) rfl ?_); (try (rw [drewN_self wc]; generalize hq_ : World.drewN wc _ = wc; have n0_ := Aside0.mk (Kd.R_at hq_ HO_6.out); have n1_ := Aside0.mk (Kd.R_at hq_ HO_8.out); have n2_ := Aside0.mk (Kd.R_at hq_ HO_9.out); have n3_ := Aside0.mk (Kd.R_at hq_ HO_10.out); have n4_ := Aside0.mk (Kd.R_at hq_ HO_22.out); have n5_ := Aside0.mk (below_at hq_ HB.out); clear hq_ HO_6 HO_8 HO_9 HO_10 HO_22 HB; have HO_6 := n0_; have HO_8 := n1_; have HO_9 := n2_; have HO_10 := n3_; have HO_22 := n4_; have HB := n5_; clear n0_ n1_ n2_ n3_ n4_ n5_; (try (have HP50 := Kd.R_putg HO_6.out ((ji34) : Int) true)); (try (obtain ⟨hx41_0, hf41_0⟩ := Kd.R_celln false HO_6.out ((ji34) : Int) (of_eq_true p41) (of_eq_true q41))))); refine store_event (t := 4) (p := 72) (v := ?vo_w51) (w1 := (wc.setCell ⟨go41, ((ji34) : Int).toNat, none⟩ (.bool true))) ?hg ?ho ?hn ?hr ?_; (case ho => rfl); (case hg => rfl); (case hn => rfl); (case hr => first | (go_simp; done) | (go_simp; rfl)); intro w51 hw; have hg : wc.grownBy w51 (some go41) := (by rw [hw]; exact HP50.2); have hp_ : Kd.R Kd.bool 4 w51 w.heap.size (fun _ => True) (.slice (some ⟨go41, 0, none⟩) x6_3.length co49) y113 := (by rw [hw, Ny113.out]; exact HP50.1); clear HP50; have n0_ := Aside0.mk (hp_); have n1_ := Aside0.mk (Kd.R_over' (v := (.slice (some ⟨go41, 0, none⟩) x6_3.length co49)) (by (with_reducible repeat (first | apply Kd.R_alloc | apply Kd.R_drewN | apply Kd.R_drew)); exact HO_8.out) (Kd.R_typed HO_6.out) (by decide) hg); have n2_ := Aside0.mk (Kd.R_over' (v := (.slice (some ⟨go41, 0, none⟩) x6_3.length co49)) (by (with_reducible repeat (first | apply Kd.R_alloc | apply Kd.R_drewN | apply Kd.R_drew)); exact HO_9.out) (Kd.R_typed HO_6.out) (by decide) hg); have n3_ := Aside0.mk (Kd.R_over' (v := (.slice (some ⟨go41, 0, none⟩) x6_3.length co49)) (by (with_reducible repeat (first | apply Kd.R_alloc | apply Kd.R_drewN | apply Kd.R_drew)); exact HO_10.out) (Kd.R_typed HO_6.out) (by decide) hg); have n4_ := Aside0.mk (Kd.R_over' (v := (.slice (some ⟨go41, 0, none⟩) x6_3.length co49)) (by (with_reducible repeat (first | apply Kd.R_alloc | apply Kd.R_drewN | apply Kd.R_drew)); exact HO_22.out) (Kd.R_typed HO_6.out) (by decide) hg); have n5_ := Aside0.mk ((by rw [hw]; exact below_set (HB.out) GB41.out : Below w.heap.size w w51)); clear HO_6; clear HO_8; clear HO_9; clear HO_10; clear HO_22; clear HB; have HO_6 := n0_; have HO_8 := n1_; have HO_9 := n2_; have HO_10 := n3_; have HO_22 := n4_; have HB := n5_; clear n0_ n1_ n2_ n3_ n4_ n5_; clear hg hw hp_) | ((with_reducible refine gate_builtin (b := .append) (xs := #[.tmp 73, .tmp 81]) rfl ?_); at_builtin; refine Kd.R_append Kd.string (w0 := w) w.heap.size rfl (.tmp 73) (.tmp 81) 38 9 (.string ⟨#[]⟩) 16 rfl Try.underlying38 info9 rfl (by decide) (by omega) u9 x9_3 ((rdOf ByteArray.empty x7_1 x24_2) ++ (a1.extract (x13_3 : Int).toNat ((wrap64 (x13_3 + 1)) : Int).toNat)) [.string ((rdOf ByteArray.empty x7_1 x24_2) ++ (a1.extract (x13_3 : Int).toNat ((wrap64 (x13_3 + 1)) : Int).toNat))] (fun k_ => some k_ ≠ (.slice (some ad110) x7_1.length co12 : Value).ownBlock) (fun _ => False) rfl rfl ?aP (fun _ hk => hk.elim) ?aF ?aO ?aB ?aS ?aL ?_; (case aP => exact rfl); (case aB => exact (by repeat (first | (with_reducible first | exact HB.out | apply below_alloc | apply pw_below_drewN | apply below_drew1) | exact HB.out))); (case aF => exact (fun k_ hk => Kd.fresh' (Kd.R_lt (by (with_reducible repeat (first | apply Kd.R_alloc | apply Kd.R_drewN | apply Kd.R_drew)); exact HO_22.out)) k_ hk)); (case aO => exact (by (with_reducible repeat (first | apply Kd.R_alloc | apply Kd.R_drewN | apply Kd.R_drew)); exact HO_9.out)); (case aS => exact (below_size (by repeat (first | (with_reducible first | exact HB.out | apply below_alloc | apply pw_below_drewN | apply below_drew1) | exact HB.out)))); (case aL => have := LMc46.out; omega); intro v115 w52 ho hb hg hat; rw [← Ny114.out] at ho; have n0_ := Aside0.mk (Kd.R_over' (by (with_reducible repeat (first | apply Kd.R_alloc | apply Kd.R_drewN | apply Kd.R_drew)); exact HO_6.out) (Kd.R_typed (by (with_reducible repeat (first | apply Kd.R_alloc | apply Kd.R_drewN | apply Kd.R_drew)); exact HO_9.out)) (by decide) hg); have n1_ := Aside0.mk (Kd.R_over' (by (with_reducible repeat (first | apply Kd.R_alloc | apply Kd.R_drewN | apply Kd.R_drew)); exact HO_8.out) (Kd.R_typed (by (with_reducible repeat (first | apply Kd.R_alloc | apply Kd.R_drewN | apply Kd.R_drew)); exact HO_9.out)) (by decide) hg); have n2_ := Aside0.mk (Kd.R_over' (by (with_reducible repeat (first | apply Kd.R_alloc | apply Kd.R_drewN | apply Kd.R_drew)); exact HO_10.out) (Kd.R_typed (by (with_reducible repeat (first | apply Kd.R_alloc | apply Kd.R_drewN | apply Kd.R_drew)); exact HO_9.out)) (by decide) hg); have n3_ := Aside0.mk (Kd.R_after (ok := (fun _ => True)) (by (with_reducible repeat (first | apply Kd.R_alloc | apply Kd.R_drewN | apply Kd.R_drew)); exact Kd.R_mono HO_22.out (fun _ hk => ⟨trivial, hk⟩)) hg hat); have n4_ := Aside0.mk (hb); have n5_ := Aside0.mk (ho); clear HO_6; clear HO_8; clear HO_10; clear HO_22; clear HB; clear HO_9; have HO_6 := n0_; have HO_8 := n1_; have HO_10 := n2_; have HO_22 := n3_; have HB := n4_; have HO116 := n5_; clear n0_ n1_ n2_ n3_ n4_ n5_; clear ho hb hg hat) | ((with_reducible refine gate_builtin (b := .append) (xs := #[.tmp 83, .tmp 85]) rfl ?_); at_builtin; refine Kd.R_append (Kd.int .i64) (w0 := w) w.heap.size rfl (.tmp 83) (.tmp 85) 53 3 (.int .i64 0) 8 rfl Try.underlying53 info3 rfl (by decide) (by omega) u10 x10_3 ji34 [.int .i64 ji34] (fun k_ => some k_ ≠ (.slice (some ad111) x8_1.length co48 : Value).ownBlock) (fun _ => False) rfl rfl ?aP (fun _ hk => hk.elim) ?aF ?aO ?aB ?aS ?aL ?_; (case aP => exact rfl); (case aB => exact (by repeat (first | (with_reducible first | exact HB.out | apply below_alloc | apply pw_below_drewN | apply below_drew1) | exact HB.out))); (case aF => exact (fun k_ hk => Kd.fresh' (Kd.R_lt (by (with_reducible repeat (first | apply Kd.R_alloc | apply Kd.R_drewN | apply Kd.R_drew)); exact HO_8.out)) k_ hk)); (case aO => exact (by (with_reducible repeat (first | apply Kd.R_alloc | apply Kd.R_drewN | apply Kd.R_drew)); exact HO_10.out)); (case aS => exact (below_size (by repeat (first | (with_reducible first | exact HB.out | apply below_alloc | apply pw_below_drewN | apply below_drew1) | exact HB.out)))); (case aL => have := LMc47.out; omega); intro v118 w53 ho hb hg hat; rw [← Ny117.out] at ho; have n0_ := Aside0.mk (Kd.R_over' (by (with_reducible repeat (first | apply Kd.R_alloc | apply Kd.R_drewN | apply Kd.R_drew)); exact HO_6.out) (Kd.R_typed (by (with_reducible repeat (first | apply Kd.R_alloc | apply Kd.R_drewN | apply Kd.R_drew)); exact HO_10.out)) (by decide) hg); have n1_ := Aside0.mk (Kd.R_after (ok := (fun _ => True)) (by (with_reducible repeat (first | apply Kd.R_alloc | apply Kd.R_drewN | apply Kd.R_drew)); exact Kd.R_mono HO_8.out (fun _ hk => ⟨trivial, hk⟩)) hg hat); have n2_ := Aside0.mk (Kd.R_over' (by (with_reducible repeat (first | apply Kd.R_alloc | apply Kd.R_drewN | apply Kd.R_drew)); exact HO_22.out) (Kd.R_typed (by (with_reducible repeat (first | apply Kd.R_alloc | apply Kd.R_drewN | apply Kd.R_drew)); exact HO_10.out)) (by decide) hg); have n3_ := Aside0.mk (Kd.R_over' (by (with_reducible repeat (first | apply Kd.R_alloc | apply Kd.R_drewN | apply Kd.R_drew)); exact HO116.out) (Kd.R_typed (by (with_reducible repeat (first | apply Kd.R_alloc | apply Kd.R_drewN | apply Kd.R_drew)); exact HO_10.out)) (by decide) hg); have n4_ := Aside0.mk (hb); have n5_ := Aside0.mk (ho); clear HO_6; clear HO_8; clear HO_22; clear HO116; clear HB; clear HO_10; have HO_6 := n0_; have HO_8 := n1_; have HO_22 := n2_; have HO116 := n3_; have HB := n4_; have HO119 := n5_; clear n0_ n1_ n2_ n3_ n4_ n5_; clear ho hb hg hat)))
                                                              go_roundg kj16
                                                              case measure => have := HK1.out; have := HK2.out; have := HK3.out; have := HJ16.out; omega
                                                              case rel => exact ⟨(y113), (y114), (y117), (wrap64 (x13_3 + 1)), (by first | rfl | (simp; done) | (simp [*]; done)), H', ⟨by have := HK1.out; have := HK2.out; have := HK3.out; have := HJ16.out; omega⟩, ⟨by (with_reducible repeat (first | apply Kd.R_alloc | apply Kd.R_drewN | apply Kd.R_drew)); exact HO_6.out⟩, ⟨by (with_reducible repeat (first | apply Kd.R_alloc | apply Kd.R_drewN | apply Kd.R_drew)); exact Kd.R_mono HO_8.out (fun _ hk => hk.2)⟩, ⟨by (with_reducible repeat (first | apply Kd.R_alloc | apply Kd.R_drewN | apply Kd.R_drew)); exact HO116.out⟩, ⟨by (with_reducible repeat (first | apply Kd.R_alloc | apply Kd.R_drewN | apply Kd.R_drew)); exact HO119.out⟩, ⟨by (with_reducible repeat (first | apply Kd.R_alloc | apply Kd.R_drewN | apply Kd.R_drew)); exact Kd.R_mono HO_22.out (fun _ hk => hk.2)⟩, ⟨by repeat (first | (with_reducible first | exact HB.out | apply below_alloc | apply pw_below_drewN | apply below_drew1) | exact HB.out)⟩⟩
                                                            · rw [if_neg c47] at H
                                                              exact absurd H (by simp)
                                                          · rw [if_neg c46] at H
                                                            exact absurd H (by simp)
                                                        · rw [if_neg c45] at H
                                                          exact absurd H (by simp)
                                                      · rw [if_neg c44] at H
                                                        exact absurd H (by simp)
                                                    · rw [if_neg c43] at H
                                                      exact absurd H (by simp)
                                                · rw [if_neg c36] at H
                                                  exact absurd H (by simp)
                                              · rw [if_neg c35] at H
                                                exact absurd H (by simp)
                                        · rw [if_neg c25] at H
                                          exact absurd H (by simp)
                                      · rw [if_neg c24] at H
                                        exact absurd H (by simp)
                                    · rw [if_neg c23] at H
                                      exact absurd H (by simp)
                                  · rw [if_neg c22] at H
                                    exact absurd H (by simp)
                          · rw [if_neg c16] at H
                            have c16b0 : decide (x13_3 < (a1.size : Int)) = false := decide_eq_false c16
                            clear c16
                            have H' := Aside0.mk H
                            clear H
                            go_wp2
                            repeat (go_quiet (fail); try go_wp2)
                            go_roundg k3
                            case measure => have := HK1.out; have := HK2.out; have := HK3.out; omega
                            case rel => exact ⟨(x6_3), (x9_3), (x10_3), (wrap64 (x24_2 + 1)), (by first | rfl | (simp; done) | (simp [*]; done)), H', ⟨by have := HK1.out; have := HK2.out; have := HK3.out; omega⟩, ⟨by (with_reducible repeat (first | apply Kd.R_alloc | apply Kd.R_drewN | apply Kd.R_drew)); exact HO_6.out⟩, ⟨by (with_reducible repeat (first | apply Kd.R_alloc | apply Kd.R_drewN | apply Kd.R_drew)); exact HO_8.out⟩, ⟨by (with_reducible repeat (first | apply Kd.R_alloc | apply Kd.R_drewN | apply Kd.R_drew)); exact HO_9.out⟩, ⟨by (with_reducible repeat (first | apply Kd.R_alloc | apply Kd.R_drewN | apply Kd.R_drew)); exact HO_10.out⟩, ⟨by (with_reducible repeat (first | apply Kd.R_alloc | apply Kd.R_drewN | apply Kd.R_drew)); exact HO_22.out⟩, ⟨by repeat (first | (with_reducible first | exact HB.out | apply below_alloc | apply pw_below_drewN | apply below_drew1) | exact HB.out)⟩⟩
                    · rw [if_neg c15] at H
                      exact absurd H (by simp)
                  · rw [if_neg c14] at H
                    exact absurd H (by simp)
                · rw [if_neg c13] at H
                  have c13b0 : decide (x24_2 < (x7_1.length : Int)) = false := decide_eq_false c13
                  clear c13
                  have H' := Aside0.mk H
                  clear H
                  go_wp2
                  repeat (go_quiet (fail); try go_wp2)
                  go_roundg k2
                  case measure => have := HK1.out; have := HK2.out; omega
                  case rel => exact ⟨(x6_2), (x9_2), (x10_2), H', ⟨by have := HK1.out; have := HK2.out; omega⟩, ⟨by (with_reducible repeat (first | apply Kd.R_alloc | apply Kd.R_drewN | apply Kd.R_drew)); exact HO_6.out⟩, ⟨by (with_reducible repeat (first | apply Kd.R_alloc | apply Kd.R_drewN | apply Kd.R_drew)); exact Kd.R_mono HO_9.out (fun _ hk => trivial)⟩, ⟨by (with_reducible repeat (first | apply Kd.R_alloc | apply Kd.R_drewN | apply Kd.R_drew)); exact Kd.R_mono HO_10.out (fun _ hk => trivial)⟩, ⟨by repeat (first | (with_reducible first | exact HB.out | apply below_alloc | apply pw_below_drewN | apply below_drew1) | exact HB.out)⟩⟩
          · rw [if_neg c11] at H
            have c11b0 : decide (0 < (x7_1.length : Int)) = false := decide_eq_false c11
            have c11b1 : decide (0 < x7_1.length) = false := decide_eq_false (by omega)
            clear c11
            simp only [Option.some.injEq, Prod.mk.injEq] at H
            obtain ⟨rfl, rfl⟩ := H
            obtain ⟨Ao54, co54, eo54⟩ := Kd.R_slice HO_7.out
            subst eo54
            go_wp2
            repeat (go_quiet (fail); try go_wp2)
            go_ret2
            exact ⟨by first | rfl | (simp [errW_none, errW_some] <;> rfl) | (simp [*, errW_none, errW_some] <;> rfl), by repeat (first | (with_reducible first | exact HB.out | apply below_alloc | apply pw_below_drewN | apply below_drew1) | exact HB.out)⟩
    · rw [if_neg c4] at H
      exact absurd H (by simp)
  · rw [if_neg c3] at H
    exact absurd H (by simp)

end Go.Proofs.Ytpdcjkiejglaiaa.Q

/- Laid by a program of this session (wip/tools/own_print.py) over the translation of this seat: contracts of the functions that the statement reaches. -/
namespace Go.Proofs.Ytpdcjkiejglaiaa.Q
open Go.RowKit Go.Proofs.YtpdcjkiejglaiaaW.PrintWords Go.Proofs.YtpdcjkiejglaiaaW.PrintLast Go.Proofs.YtpdcjkiejglaiaaW.PrintMore
attribute [local go_sem] max2_int min2_int max_two min_two max_three min_three max_four min_four   -- for this text's walks alone
set_option linter.unusedVariables false
set_option linter.unusedSimpArgs false

/-! ### spec_l1In: function 46 -/
def spec_l1In.f (a0 : Int) (a1 : Int) (a2 : Int) : Option (Bool) := if a0 ≥ a1 then (some (decide (a0 ≤ a2))) else (some false)
set_option maxHeartbeats 8000000 in
set_option maxRecDepth 100000 in
theorem spec_l1In.calls (a0 : Int) (a1 : Int) (a2 : Int) (r : Bool) (w : World) (h : spec_l1In.f a0 a1 a2 = some r) :
    Calls Try.prog 46 #[.int .i64 a0, .int .i64 a1, .int .i64 a2] w fun e w' => e = .returned (.bool r) ∧ Drawn0 w w' := by
  have H : (if a0 ≥ a1 then (some (decide (a0 ≤ a2))) else (some false)) = some r := h
  clear h
  by_cases c4 : a0 ≥ a1
  · rw [if_pos c4] at H
    have c4b0 : decide (a1 ≤ a0) = true := decide_eq_true c4
    clear c4
    obtain rfl := Option.some.inj H
    go_enter Try.func46, Try.ntmps46
    go_wp2
    go_ret
    exact ⟨by first | rfl | (simp; done) | (simp [*]; done), by repeat (first | exact Drawn0.refl _ | apply Drawn0.step)⟩
  · rw [if_neg c4] at H
    have c4b0 : decide (a1 ≤ a0) = false := decide_eq_false c4
    clear c4
    obtain rfl := Option.some.inj H
    go_enter Try.func46, Try.ntmps46
    go_wp2
    go_ret
    exact ⟨by first | rfl | (simp; done) | (simp [*]; done), by repeat (first | exact Drawn0.refl _ | apply Drawn0.step)⟩

end Go.Proofs.Ytpdcjkiejglaiaa.Q

/- Laid by a program of this session (wip/tools/own_print.py) over the translation of this seat: contracts of the functions that the statement reaches. -/
namespace Go.Proofs.Ytpdcjkiejglaiaa.Q
open Go.RowKit Go.Proofs.YtpdcjkiejglaiaaW.PrintWords Go.Proofs.YtpdcjkiejglaiaaW.PrintLast Go.Proofs.YtpdcjkiejglaiaaW.PrintMore
attribute [local go_sem] max2_int min2_int max_two min_two max_three min_three max_four min_four   -- for this text's walks alone
set_option linter.unusedVariables false
set_option linter.unusedSimpArgs false

/-! ### spec_leDivisor: function 27 -/
def spec_leDivisor.f (a0 : Int) : Option (Bool) := (spec_l1In.f a0 1 400).bind fun t101 => (some t101)
set_option maxHeartbeats 8000000 in
set_option maxRecDepth 100000 in
theorem spec_leDivisor.calls (a0 : Int) (r : Bool) (w : World) (h : spec_leDivisor.f a0 = some r) :
    Calls Try.prog 27 #[.int .i64 a0] w fun e w' => e = .returned (.bool r) ∧ Drawn0 w w' := by
  have H : ((spec_l1In.f a0 1 400).bind fun t101 => (some t101)) = some r := h
  clear h
  replace H := Option.bind_eq_some_iff.mp H
  obtain ⟨t101, A20, H⟩ := H
  replace H : (some t101) = some r := H
  have A2 := Aside0.mk A20
  clear A20
  obtain rfl := Option.some.inj H
  go_enter Try.func27, Try.ntmps27
  go_wp2_with (first | ((with_reducible refine gate_callee (f := 46) rfl ?_); refine goesL_ (some 4) rfl rfl Try.func46 (by kernel_rfl) rfl #[.int .i64 a0, .int .i64 1, .int .i64 400] rfl (by (try simp only [List.map_toArray, List.map_cons, List.map_nil]); first | done | rfl | (simp only [List.length_drop, List.length_take]; rfl)) ?_; (with_reducible refine (spec_l1In.calls a0 1 400 t101 _ A2.out).mono ?_); rintro e w' ⟨rfl, ⟨nd, rfl⟩⟩; refine ⟨_, rfl, ?_⟩))
  go_ret
  exact ⟨by first | rfl | (simp; done) | (simp [*]; done), by repeat (first | exact Drawn0.refl _ | apply Drawn0.step)⟩

end Go.Proofs.Ytpdcjkiejglaiaa.Q

/- Laid by a program of this session (wip/tools/own_print.py) over the translation of this seat: contracts of the functions that the statement reaches. -/
namespace Go.Proofs.Ytpdcjkiejglaiaa.Q
open Go.RowKit Go.Proofs.YtpdcjkiejglaiaaW.PrintWords Go.Proofs.YtpdcjkiejglaiaaW.PrintLast Go.Proofs.YtpdcjkiejglaiaaW.PrintMore
attribute [local go_sem] max2_int min2_int max_two min_two max_three min_three max_four min_four   -- for this text's walks alone
set_option linter.unusedVariables false
set_option linter.unusedSimpArgs false

/-! ### spec_l1Num: function 33 -/
def spec_l1Num.f : Nat → Int → Option (ByteArray)
  | 0, _ => none
  | k + 1, a0 => if a0 < 10 then (some (strOfNums (([(wrap64 (48 + a0)) % 256] : List Int)))) else ((spec_l1Num.f k (wrap64 (Int.tdiv a0 10))).bind fun t104 => ((some (([(wrap64 (48 + (Int.tmod a0 10))) % 256] : List Int) : List Int)).bind fun y105 => (if t104.size + (strOfNums y105).size ≤ 9223372036854775807 then (some (t104 ++ (strOfNums y105))) else (none))))
theorem spec_l1Num.mono_l : ∀ k, (∀ y0, LeO (spec_l1Num.f k y0) (spec_l1Num.f (k + 1) y0))
  | 0 => fun _ r h => by simp [spec_l1Num.f] at h
  | k + 1 => by
    have ih0 := spec_l1Num.mono_l k
    · intro y0
      unfold spec_l1Num.f
      repeat' first
      | (with_reducible exact ih0 _)
      | (with_reducible exact LeO.refl _)
      | (with_reducible exact LeO.none _)
      | (with_reducible refine LeO.ite ?_ ?_)
      | (with_reducible refine LeO.bind ?_ (fun _ => ?_))
      | exact ih0 _
      | exact LeO.none _
      | refine LeO.ite ?_ ?_
      | refine LeO.bind ?_ (fun _ => ?_)
theorem spec_l1Num.mono : ∀ a0 k, LeO (spec_l1Num.f k a0) (spec_l1Num.f (k + 1) a0) := by
  intro a0 k
  have ih0 := spec_l1Num.mono_l k
  exact ih0 a0
def spec_l1Num.T3 : Bool × List (List Nat × List Nat) := (true, [([], []), ([0], [0]), ([1], [1]), ([], []), ([3], [3]), ([4], [4]), ([5], [5]), ([6], [6]), ([7], [7]), ([2, 8], [2, 8]), ([9, 2, 0, 1, 2, 3, 4, 5, 6, 7, 8, 9], [9])])
def spec_l1Num.B3 : List Nat := [0, 1, 3, 0, 8, 24, 56, 120, 248, 511, 1023]
theorem spec_l1Num.tab3 : rtab .any (opsOf Try.f33 3) = spec_l1Num.T3 := by kernel_rfl
theorem spec_l1Num.bits3 : waitsOk spec_l1Num.T3.2 spec_l1Num.B3 = true := by kernel_rfl
set_option maxHeartbeats 8000000 in
set_option maxRecDepth 100000 in
theorem spec_l1Num.calls (k : Nat) : ∀ (a0 : Int) (r : ByteArray) (w : World) (h : spec_l1Num.f k a0 = some r),
    Calls Try.prog 33 #[.int .i64 a0] w fun e w' => e = .returned (.string r) ∧ Below w.heap.size w w' := by
  induction k using Nat.strongRecOn with
  | _ k ih =>
  intro a0 r w h
  cases k with
  | zero => exact absurd h (by simp [spec_l1Num.f])
  | succ k =>
  simp only [spec_l1Num.f] at h
  have HB := Aside0.mk (Below.refl w.heap.size w)
  have H : (if a0 < 10 then (some (strOfNums (([(wrap64 (48 + a0)) % 256] : List Int)))) else ((spec_l1Num.f k (wrap64 (Int.tdiv a0 10))).bind fun t104 => ((some (([(wrap64 (48 + (Int.tmod a0 10))) % 256] : List Int) : List Int)).bind fun y105 => (if t104.size + (strOfNums y105).size ≤ 9223372036854775807 then (some (t104 ++ (strOfNums y105))) else (none))))) = some r := h
  clear h
  by_cases c2 : a0 < 10
  · rw [if_pos c2] at H
    have c2b0 : decide (a0 < 10) = true := decide_eq_true c2
    clear c2
    obtain ⟨y101, hy101⟩ : ∃ y_ : List Int, y_ = (([(wrap64 (48 + a0)) % 256] : List Int)) := ⟨_, rfl⟩
    replace H : (some (strOfNums y101)) = some r := by first | (rw [hy101]; with_reducible exact H) | (have H2_ := (Option.bind_some _ _).symm.trans H; rw [hy101]; with_reducible exact H2_) | (have H2_ := (Option.bind_some _ _).symm.trans H; with_reducible exact H2_) | with_reducible exact H | (rw [hy101]; exact H) | exact H
    have Ny101 := Aside0.mk hy101
    clear hy101
    obtain rfl := Option.some.inj H
    go_enter Try.func33, Try.ntmps33
    go_wp2_with (first | ((with_reducible refine gate_dst (N := 8) rfl ?_); refine Kd.R_lit (Kd.int .u8) _ 5 ?hg (N := 8) ?hd (xs := ([(wrap64 (48 + a0)) % 256] : List Int)) (inner := [.int .u8 ((wrap64 (48 + a0)) % 256)]) (ok := fun _ => True) (okp := fun _ => True) ?hr ?hp (fun _ hk => hk) trivial (Below.refl _ _) (Nat.le_refl _) (by simp) ?_; (case hd => rfl); (case hg => rfl); (case hr => first | (go_simp; done) | (go_simp; rfl)); (case hp => exact (Reps.one (show Kd.M (Kd.int .u8) _ _ _ ((wrap64 (48 + a0)) % 256) [.int .u8 ((wrap64 (48 + a0)) % 256)] from rfl) (Reps.none _ _))); intro v102 w3 ho4 hb hg_ hnew_; clear hg_ hnew_; (first | rw [← Ny101.out] at ho4 | (simp only [Int.reduceToNat] at ho4; rw [← Ny101.out] at ho4)); have n0_ := Aside0.mk (Kd.R_lower ho4 (below_size (by repeat (first | (with_reducible first | exact HB.out | apply below_alloc | apply pw_below_drewN | apply below_drew1) | exact HB.out)))); have n1_ := Aside0.mk (below_step (by repeat (first | (with_reducible first | exact HB.out | apply below_alloc | apply pw_below_drewN | apply below_drew1) | exact HB.out)) hb); clear HB; have HO103 := n0_; have HB := n1_; clear n0_ n1_; clear hb ho4; have hcv5 := own_string (P := Try.prog) Try.underlying39 Try.underlying5 Try.underlying9 (Kd.own_of_R HO103.out)))
    go_ret
    exact ⟨by first | rfl | (simp [errW_none, errW_some] <;> rfl) | (simp [*, errW_none, errW_some] <;> rfl), by repeat (first | (with_reducible first | exact HB.out | apply below_alloc | apply pw_below_drewN | apply below_drew1) | exact HB.out)⟩
  · rw [if_neg c2] at H
    have c2b0 : decide (a0 < 10) = false := decide_eq_false c2
    clear c2
    replace H := Option.bind_eq_some_iff.mp H
    obtain ⟨t104, A60, H⟩ := H
    replace H : ((some (([(wrap64 (48 + (Int.tmod a0 10))) % 256] : List Int) : List Int)).bind fun y105 => (if t104.size + (strOfNums y105).size ≤ 9223372036854775807 then (some (t104 ++ (strOfNums y105))) else (none))) = some r := H
    have A6 := Aside0.mk A60
    clear A60
    obtain ⟨y105, hy105⟩ : ∃ y_ : List Int, y_ = (([(wrap64 (48 + (Int.tmod a0 10))) % 256] : List Int)) := ⟨_, rfl⟩
    replace H : (if t104.size + (strOfNums y105).size ≤ 9223372036854775807 then (some (t104 ++ (strOfNums y105))) else (none)) = some r := by first | (rw [hy105]; with_reducible exact H) | (have H2_ := (Option.bind_some _ _).symm.trans H; rw [hy105]; with_reducible exact H2_) | (have H2_ := (Option.bind_some _ _).symm.trans H; with_reducible exact H2_) | with_reducible exact H | (rw [hy105]; exact H) | exact H
    have Ny105 := Aside0.mk hy105
    clear hy105
    by_cases c7 : t104.size + (strOfNums y105).size ≤ 9223372036854775807
    · rw [if_pos c7] at H
      have c7b0 := eq_true c7
      have c7b1 : decide (t104.size + (strOfNums y105).size ≤ 9223372036854775807) = true := decide_eq_true c7
      try have c7b2 : (9223372036854775807 < t104.size + (strOfNums y105).size) = False := eq_false (Nat.not_lt.2 c7)
      obtain rfl := Option.some.inj H
      go_enter Try.func33, Try.ntmps33
      try go_wp2
      have n0_ := Aside0.mk (below_drew1 HB.out)
      clear HB
      have HB := n0_
      clear n0_
      refine start_ (n := 11) (S := fun w' => True) (ds := []) #[false, false, false, false, false, false, false, false, false, false, false] (by kernel_rfl) rfl rfl trivial (fun hHeld => ?_); refine with_tabW spec_l1Num.tab3 spec_l1Num.bits3 (fun HT_ HW_ => ?_)
      generalize w.drew = w8 at HB hHeld ⊢
      refine pure_ (i := 0) (N := some 10) (v := ?_) (a' := ?_) #[true, false, false, false, false, false, false, false, false, false, false] rfl rfl (any_of HT_.out (by kernel_rfl)) (fun _ _ _ h => h) (Or.inl ⟨by rfl, ?_⟩) ?_ ?_
      rotate_left
      · intro w'
        go_simp
        with_reducible rfl
      rotate_left
      · simp only [Act.put, List.setIfInBounds_toArray, List.set_cons_zero, List.set_cons_succ, i64_w, i32_w]
        rfl
      refine pure_ (i := 1) (N := some 11) (v := ?_) (a' := ?_) #[true, true, false, false, false, false, false, false, false, false, false] rfl rfl (any_of HT_.out (by kernel_rfl)) (fun _ _ _ h => h) (Or.inl ⟨by rfl, ?_⟩) ?_ ?_
      rotate_left
      · intro w'
        go_simp
        with_reducible rfl
      rotate_left
      · simp only [Act.put, List.setIfInBounds_toArray, List.set_cons_zero, List.set_cons_succ, i64_w, i32_w]
        rfl
      refine pure_ (i := 3) (N := some 13) (v := ?_) (a' := ?_) #[true, true, false, true, false, false, false, false, false, false, false] rfl rfl (any_of HT_.out (by kernel_rfl)) (fun _ _ _ h => h) (Or.inl ⟨by rfl, ?_⟩) ?_ ?_
      rotate_left
      · intro w'
        go_simp
        with_reducible rfl
      rotate_left
      · simp only [Act.put, List.setIfInBounds_toArray, List.set_cons_zero, List.set_cons_succ, i64_w, i32_w]
        rfl
      refine pure_ (i := 4) (N := some 14) (v := ?_) (a' := ?_) #[true, true, false, true, true, false, false, false, false, false, false] rfl rfl (any_of HT_.out (by kernel_rfl)) (fun _ _ _ h => h) (Or.inl ⟨by rfl, ?_⟩) ?_ ?_
      rotate_left
      · intro w'
        go_simp
        with_reducible rfl
      rotate_left
      · simp only [Act.put, List.setIfInBounds_toArray, List.set_cons_zero, List.set_cons_succ, i64_w, i32_w]
        rfl
      refine pure_ (i := 5) (N := some 15) (v := ?_) (a' := ?_) #[true, true, false, true, true, true, false, false, false, false, false] rfl rfl (any_of HT_.out (by kernel_rfl)) (fun _ _ _ h => h) (Or.inl ⟨by rfl, ?_⟩) ?_ ?_
      rotate_left
      · intro w'
        go_simp
        with_reducible rfl
      rotate_left
      · simp only [Act.put, List.setIfInBounds_toArray, List.set_cons_zero, List.set_cons_succ, i64_w, i32_w]
        rfl
      refine pure_ (i := 6) (N := some 16) (v := ?_) (a' := ?_) #[true, true, false, true, true, true, true, false, false, false, false] rfl rfl (any_of HT_.out (by kernel_rfl)) (fun _ _ _ h => h) (Or.inl ⟨by rfl, ?_⟩) ?_ ?_
      rotate_left
      · intro w'
        go_simp
        with_reducible rfl
      rotate_left
      · simp only [Act.put, List.setIfInBounds_toArray, List.set_cons_zero, List.set_cons_succ, i64_w, i32_w]
        rfl
      refine join_ (σ := Value) 2 #[true, true, true, true, true, true, true, true, true, false, false] (fun s_ => [(12, .string t104), (17, s_), (18, .string (strOfNums y105))]) (fun s_ w' => (Kd.R (Kd.int .u8) 5 w' w.heap.size (fun _ => True) s_ y105) ∧ (Below w.heap.size w w')) ?_ ?_
      rotate_left
      · intro hCont
        refine two_ (i := 2) (j := 7) (Ni := some 12) (Nj := some 17) #[true, true, true, true, true, true, true, false, false, false, false] #[true, true, false, true, true, true, true, true, false, false, false] rfl rfl rfl rfl (two_of HT_.out (by kernel_rfl)) (by decide) (by decide) (fun K hK => ?_) (fun K hK => ?_)
        · skip
          refine goes_ Try.func33 (by kernel_rfl) rfl #[.int .i64 (wrap64 (Int.tdiv a0 10))] (by rfl) rfl rfl (by (try simp only [List.map_toArray, List.map_cons, List.map_nil]); first | done | rfl | (simp only [List.length_drop, List.length_take]; rfl)) ?_
          with_reducible refine (ih k (by omega) (wrap64 (Int.tdiv a0 10)) t104 _ A6.out).mono ?_
          rintro e w9 ⟨rfl, hb⟩
          refine ⟨_, rfl, ?_⟩
          have n0_ := Aside0.mk (below_step (by repeat (first | (with_reducible first | exact HB.out | apply below_alloc | apply pw_below_drewN | apply below_drew1) | exact HB.out)) hb)
          clear HB
          have HB := n0_
          clear n0_
          (try clear hb)
          (try clear hb2)
          (try clear hk)
          (try clear hi)
          refine hK.out _ _ trivial (fun hHeld => ?_)
          clear hK K
          refine norm_ (a' := ?_) ?_ ?_
          rotate_left
          · show Act.put _ (some 12) _ = _
            simp only [Act.put, List.setIfInBounds_toArray, List.set_cons_zero, List.set_cons_succ, i64_w, i32_w]
            rfl
          refine one_ (i := 7) (N := some 17) #[true, true, true, true, true, true, true, true, false, false, false] rfl rfl (one_of HT_.out (by kernel_rfl)) (by decide) (fun K hK => ?_)
          refine Kd.R_lit_step (Kd.int .u8) _ 5 ?hg (N := 17) ?hd (xs := ([(wrap64 (48 + (Int.tmod a0 10))) % 256] : List Int)) (inner := [.int .u8 ((wrap64 (48 + (Int.tmod a0 10))) % 256)]) (ok := fun _ => True) (okp := fun _ => True) ?hr ?hp (fun _ hk => hk) trivial (Below.refl _ _) (Nat.le_refl _) (by simp) ?_; (case hd => rfl); (case hg => rfl); (case hr => first | (go_simp; done) | (go_simp; rfl)); (case hp => exact (Reps.one (show Kd.M (Kd.int .u8) _ _ _ ((wrap64 (48 + (Int.tmod a0 10))) % 256) [.int .u8 ((wrap64 (48 + (Int.tmod a0 10))) % 256)] from rfl) (Reps.none _ _)))
          intro v106 w10 ho11 hb hg_ hnew_
          clear hg_ hnew_
          (first | rw [← Ny105.out] at ho11 | (simp only [Int.reduceToNat] at ho11; rw [← Ny105.out] at ho11))
          have n0_ := Aside0.mk (Kd.R_lower ho11 (below_size (by repeat (first | (with_reducible first | exact HB.out | apply below_alloc | apply pw_below_drewN | apply below_drew1) | exact HB.out))))
          have n1_ := Aside0.mk (below_step (by repeat (first | (with_reducible first | exact HB.out | apply below_alloc | apply pw_below_drewN | apply below_drew1) | exact HB.out)) hb)
          clear HB
          have HO107 := n0_
          have HB := n1_
          clear n0_ n1_
          clear hb ho11
          refine hK.out _ _ trivial (fun hHeld => ?_)
          clear hK K
          refine norm_ (a' := ?_) ?_ ?_
          rotate_left
          · show Act.put _ (some 17) _ = _
            simp only [Act.put, List.setIfInBounds_toArray, List.set_cons_zero, List.set_cons_succ, i64_w, i32_w]
            rfl
          refine one_ (i := 8) (N := some 18) #[true, true, true, true, true, true, true, true, true, false, false] rfl rfl (one_of HT_.out (by kernel_rfl)) (by decide) (fun K hK => ?_)
          have hcv12 := own_string (P := Try.prog) Try.underlying39 Try.underlying5 Try.underlying9 (Kd.own_of_R HO107.out)
          refine value_ (w1 := ?_) (v := ?_) (by rfl) rfl ?_ ?_
          rotate_left 2
          · go_simp
            constructor
            · rfl
            · rfl
          clear hcv12
          refine hK.out _ _ trivial (fun hHeld => ?_)
          clear hK K
          refine norm_ (a' := ?_) ?_ ?_
          rotate_left
          · show Act.put _ (some 18) _ = _
            simp only [Act.put, List.setIfInBounds_toArray, List.set_cons_zero, List.set_cons_succ, i64_w, i32_w]
            rfl
          exact norm_ (by simp only [putAll, Act.put, List.setIfInBounds_toArray, List.set_cons_zero, List.set_cons_succ]) (hCont (v106) _ ⟨(by (with_reducible repeat (first | apply Kd.R_alloc | apply Kd.R_drewN | apply Kd.R_drew)); exact HO107.out), (by repeat (first | (with_reducible first | exact HB.out | apply below_alloc | apply pw_below_drewN | apply below_drew1) | exact HB.out))⟩)
        · skip
          refine Kd.R_lit_step (Kd.int .u8) _ 5 ?hg (N := 17) ?hd (xs := ([(wrap64 (48 + (Int.tmod a0 10))) % 256] : List Int)) (inner := [.int .u8 ((wrap64 (48 + (Int.tmod a0 10))) % 256)]) (ok := fun _ => True) (okp := fun _ => True) ?hr ?hp (fun _ hk => hk) trivial (Below.refl _ _) (Nat.le_refl _) (by simp) ?_; (case hd => rfl); (case hg => rfl); (case hr => first | (go_simp; done) | (go_simp; rfl)); (case hp => exact (Reps.one (show Kd.M (Kd.int .u8) _ _ _ ((wrap64 (48 + (Int.tmod a0 10))) % 256) [.int .u8 ((wrap64 (48 + (Int.tmod a0 10))) % 256)] from rfl) (Reps.none _ _)))
          intro v106 w9 ho10 hb hg_ hnew_
          clear hg_ hnew_
          (first | rw [← Ny105.out] at ho10 | (simp only [Int.reduceToNat] at ho10; rw [← Ny105.out] at ho10))
          have n0_ := Aside0.mk (Kd.R_lower ho10 (below_size (by repeat (first | (with_reducible first | exact HB.out | apply below_alloc | apply pw_below_drewN | apply below_drew1) | exact HB.out))))
          have n1_ := Aside0.mk (below_step (by repeat (first | (with_reducible first | exact HB.out | apply below_alloc | apply pw_below_drewN | apply below_drew1) | exact HB.out)) hb)
          clear HB
          have HO107 := n0_
          have HB := n1_
          clear n0_ n1_
          clear hb ho10
          refine hK.out _ _ trivial (fun hHeld => ?_)
          clear hK K
          refine norm_ (a' := ?_) ?_ ?_
          rotate_left
          · show Act.put _ (some 17) _ = _
            simp only [Act.put, List.setIfInBounds_toArray, List.set_cons_zero, List.set_cons_succ, i64_w, i32_w]
            rfl
          refine two_ (i := 2) (j := 8) (Ni := some 12) (Nj := some 18) #[true, true, true, true, true, true, true, true, false, false, false] #[true, true, false, true, true, true, true, true, true, false, false] rfl rfl rfl rfl (two_of HT_.out (by kernel_rfl)) (by decide) (by decide) (fun K hK => ?_) (fun K hK => ?_)
          · skip
            refine goes_ Try.func33 (by kernel_rfl) rfl #[.int .i64 (wrap64 (Int.tdiv a0 10))] (by rfl) rfl rfl (by (try simp only [List.map_toArray, List.map_cons, List.map_nil]); first | done | rfl | (simp only [List.length_drop, List.length_take]; rfl)) ?_
            with_reducible refine (ih k (by omega) (wrap64 (Int.tdiv a0 10)) t104 _ A6.out).mono ?_
            rintro e w11 ⟨rfl, hb⟩
            refine ⟨_, rfl, ?_⟩
            have n0_ := Aside0.mk (Kd.R_below (by (with_reducible repeat (first | apply Kd.R_alloc | apply Kd.R_drewN | apply Kd.R_drew)); exact HO107.out) hb)
            have n1_ := Aside0.mk (below_step (by repeat (first | (with_reducible first | exact HB.out | apply below_alloc | apply pw_below_drewN | apply below_drew1) | exact HB.out)) hb)
            clear HO107
            clear HB
            have HO107 := n0_
            have HB := n1_
            clear n0_ n1_
            (try clear hb)
            (try clear hb2)
            (try clear hk)
            (try clear hi)
            refine hK.out _ _ trivial (fun hHeld => ?_)
            clear hK K
            refine norm_ (a' := ?_) ?_ ?_
            rotate_left
            · show Act.put _ (some 12) _ = _
              simp only [Act.put, List.setIfInBounds_toArray, List.set_cons_zero, List.set_cons_succ, i64_w, i32_w]
              rfl
            refine one_ (i := 8) (N := some 18) #[true, true, true, true, true, true, true, true, true, false, false] rfl rfl (one_of HT_.out (by kernel_rfl)) (by decide) (fun K hK => ?_)
            have hcv12 := own_string (P := Try.prog) Try.underlying39 Try.underlying5 Try.underlying9 (Kd.own_of_R HO107.out)
            refine value_ (w1 := ?_) (v := ?_) (by rfl) rfl ?_ ?_
            rotate_left 2
            · go_simp
              constructor
              · rfl
              · rfl
            clear hcv12
            refine hK.out _ _ trivial (fun hHeld => ?_)
            clear hK K
            refine norm_ (a' := ?_) ?_ ?_
            rotate_left
            · show Act.put _ (some 18) _ = _
              simp only [Act.put, List.setIfInBounds_toArray, List.set_cons_zero, List.set_cons_succ, i64_w, i32_w]
              rfl
            exact norm_ (by simp only [putAll, Act.put, List.setIfInBounds_toArray, List.set_cons_zero, List.set_cons_succ]) (hCont (v106) _ ⟨(by (with_reducible repeat (first | apply Kd.R_alloc | apply Kd.R_drewN | apply Kd.R_drew)); exact HO107.out), (by repeat (first | (with_reducible first | exact HB.out | apply below_alloc | apply pw_below_drewN | apply below_drew1) | exact HB.out))⟩)
          · skip
            have hcv11 := own_string (P := Try.prog) Try.underlying39 Try.underlying5 Try.underlying9 (Kd.own_of_R HO107.out)
            refine value_ (w1 := ?_) (v := ?_) (by rfl) rfl ?_ ?_
            rotate_left 2
            · go_simp
              constructor
              · rfl
              · rfl
            clear hcv11
            refine hK.out _ _ trivial (fun hHeld => ?_)
            clear hK K
            refine norm_ (a' := ?_) ?_ ?_
            rotate_left
            · show Act.put _ (some 18) _ = _
              simp only [Act.put, List.setIfInBounds_toArray, List.set_cons_zero, List.set_cons_succ, i64_w, i32_w]
              rfl
            refine one_ (i := 2) (N := some 12) #[true, true, true, true, true, true, true, true, true, false, false] rfl rfl (one_of HT_.out (by kernel_rfl)) (by decide) (fun K hK => ?_)
            refine goes_ Try.func33 (by kernel_rfl) rfl #[.int .i64 (wrap64 (Int.tdiv a0 10))] (by rfl) rfl rfl (by (try simp only [List.map_toArray, List.map_cons, List.map_nil]); first | done | rfl | (simp only [List.length_drop, List.length_take]; rfl)) ?_
            with_reducible refine (ih k (by omega) (wrap64 (Int.tdiv a0 10)) t104 _ A6.out).mono ?_
            rintro e w12 ⟨rfl, hb⟩
            refine ⟨_, rfl, ?_⟩
            have n0_ := Aside0.mk (Kd.R_below (by (with_reducible repeat (first | apply Kd.R_alloc | apply Kd.R_drewN | apply Kd.R_drew)); exact HO107.out) hb)
            have n1_ := Aside0.mk (below_step (by repeat (first | (with_reducible first | exact HB.out | apply below_alloc | apply pw_below_drewN | apply below_drew1) | exact HB.out)) hb)
            clear HO107
            clear HB
            have HO107 := n0_
            have HB := n1_
            clear n0_ n1_
            (try clear hb)
            (try clear hb2)
            (try clear hk)
            (try clear hi)
            refine hK.out _ _ trivial (fun hHeld => ?_)
            clear hK K
            refine norm_ (a' := ?_) ?_ ?_
            rotate_left
            · show Act.put _ (some 12) _ = _
              simp only [Act.put, List.setIfInBounds_toArray, List.set_cons_zero, List.set_cons_succ, i64_w, i32_w]
              rfl
            exact norm_ (by simp only [putAll, Act.put, List.setIfInBounds_toArray, List.set_cons_zero, List.set_cons_succ]) (hCont (v106) _ ⟨(by (with_reducible repeat (first | apply Kd.R_alloc | apply Kd.R_drewN | apply Kd.R_drew)); exact HO107.out), (by repeat (first | (with_reducible first | exact HB.out | apply below_alloc | apply pw_below_drewN | apply below_drew1) | exact HB.out))⟩)
      rintro v106 w13 ⟨h0_, h1_⟩
      have n0_ : Aside0 (Kd.R (Kd.int .u8) 5 w13 w.heap.size (fun _ => True) v106 y105) := ⟨h0_⟩
      have n1_ : Aside0 (Below w.heap.size w w13) := ⟨h1_⟩
      clear HB
      clear h0_ h1_
      have HO107 := n0_
      have HB := n1_
      clear n0_ n1_
      have hHeld := trivial
      refine norm_ (a' := ?_) ?_ ?_
      rotate_left
      · simp only [putAll, Act.put, List.setIfInBounds_toArray, List.set_cons_zero, List.set_cons_succ]
        rfl
      refine pure_ (i := 9) (N := some 19) (v := ?_) (a' := ?_) #[true, true, true, true, true, true, true, true, true, true, false] rfl rfl (any_of HT_.out (by kernel_rfl)) (fun _ _ _ h => h) (Or.inl ⟨by rfl, ?_⟩) ?_ ?_
      rotate_left
      · intro w'
        go_simp
        with_reducible rfl
      rotate_left
      · simp only [Act.put, List.setIfInBounds_toArray, List.set_cons_zero, List.set_cons_succ, i64_w, i32_w]
        rfl
      refine pure_ (i := 10) (N := some 2) (v := ?_) (a' := ?_) #[true, true, true, true, true, true, true, true, true, true, true] rfl rfl (any_of HT_.out (by kernel_rfl)) (fun _ _ _ h => h) (Or.inl ⟨by rfl, ?_⟩) ?_ ?_
      rotate_left
      · intro w'
        go_simp
        with_reducible rfl
      rotate_left
      · simp only [Act.put, List.setIfInBounds_toArray, List.set_cons_zero, List.set_cons_succ, i64_w, i32_w]
        rfl
      refine done_ (done_of HT_.out (by kernel_rfl)) ?_
      try go_wp2
      go_ret
      exact ⟨by first | rfl | (simp [errW_none, errW_some] <;> rfl) | (simp [*, errW_none, errW_some] <;> rfl), by repeat (first | (with_reducible first | exact HB.out | apply below_alloc | apply pw_below_drewN | apply below_drew1) | exact HB.out)⟩
    · rw [if_neg c7] at H
      exact absurd H (by simp)

end Go.Proofs.Ytpdcjkiejglaiaa.Q

/- Laid by a program of this session (wip/tools/own_print.py) over the translation of this seat: contracts of the functions that the statement reaches. -/
namespace Go.Proofs.Ytpdcjkiejglaiaa.Q
open Go.RowKit Go.Proofs.YtpdcjkiejglaiaaW.PrintWords Go.Proofs.YtpdcjkiejglaiaaW.PrintLast Go.Proofs.YtpdcjkiejglaiaaW.PrintMore
attribute [local go_sem] max2_int min2_int max_two min_two max_three min_three max_four min_four   -- for this text's walks alone
set_option linter.unusedVariables false
set_option linter.unusedSimpArgs false

/-! ### spec_DigitsForMultiple: function 15 -/
def spec_DigitsForMultiple.l0 : Nat → Int → Int → Option (ByteArray × Bool)
  | 0, _, _ => none
  | k + 1, x0, x4 => if x4 < 10 then ((spec_l1Num.f k x4).bind fun t102 => ((spec_leMultiple.f k x0 t102).bind fun bt103 => (if bt103.2 = true then ((spec_l1Num.f k x4).bind fun t105 => (some (t105, true))) else (spec_DigitsForMultiple.l0 k x0 (wrap64 (x4 + 1)))))) else (some ((⟨#[48, 49]⟩ : ByteArray), true))
def spec_DigitsForMultiple.f (k : Nat) (a0 : Int) : Option (ByteArray × Bool) := (spec_leDivisor.f a0).bind fun t101 => (if t101 = true then (spec_DigitsForMultiple.l0 k a0 1) else (some ((⟨#[]⟩ : ByteArray), false)))
theorem spec_DigitsForMultiple.mono_l : ∀ k, (∀ y0 y1, LeO (spec_DigitsForMultiple.l0 k y0 y1) (spec_DigitsForMultiple.l0 (k + 1) y0 y1))
  | 0 => fun _ _ r h => by simp [spec_DigitsForMultiple.l0] at h
  | k + 1 => by
    have ih0 := spec_DigitsForMultiple.mono_l k
    · intro y0 y1
      unfold spec_DigitsForMultiple.l0
      repeat' first
      | (with_reducible exact ih0 _ _)
      | (with_reducible exact spec_l1Num.mono _ _)
      | (with_reducible exact spec_leMultiple.mono _ _ _)
      | (with_reducible exact LeO.refl _)
      | (with_reducible exact LeO.none _)
      | (with_reducible refine LeO.ite ?_ ?_)
      | (with_reducible refine LeO.bind ?_ (fun _ => ?_))
      | exact ih0 _ _
      | exact spec_l1Num.mono _ _
      | exact spec_leMultiple.mono _ _ _
      | exact LeO.none _
      | refine LeO.ite ?_ ?_
      | refine LeO.bind ?_ (fun _ => ?_)
theorem spec_DigitsForMultiple.mono : ∀ a0 k, LeO (spec_DigitsForMultiple.f k a0) (spec_DigitsForMultiple.f (k + 1) a0) := by
  intro a0 k
  have ih0 := spec_DigitsForMultiple.mono_l k
  unfold spec_DigitsForMultiple.f
  repeat' first
      | (with_reducible exact ih0 _ _)
      | (with_reducible exact spec_l1Num.mono _ _)
      | (with_reducible exact spec_leMultiple.mono _ _ _)
      | (with_reducible exact LeO.refl _)
      | (with_reducible exact LeO.none _)
      | (with_reducible refine LeO.ite ?_ ?_)
      | (with_reducible refine LeO.bind ?_ (fun _ => ?_))
      | exact ih0 _ _
      | exact spec_l1Num.mono _ _
      | exact spec_leMultiple.mono _ _ _
      | exact LeO.none _
      | refine LeO.ite ?_ ?_
      | refine LeO.bind ?_ (fun _ => ?_)
set_option maxHeartbeats 8000000 in
set_option maxRecDepth 100000 in
theorem spec_DigitsForMultiple.calls (k : Nat) (a0 : Int) (r1 : ByteArray) (r2 : Bool) (w : World) (h : spec_DigitsForMultiple.f k a0 = some (r1, r2)) :
    Calls Try.prog 15 #[.int .i64 a0] w fun e w' => e = .returned (.tuple #[.string r1, .bool r2]) ∧ Below w.heap.size w w' := by
  have HB := Aside0.mk (Below.refl w.heap.size w)
  have H : ((spec_leDivisor.f a0).bind fun t101 => (if t101 = true then (spec_DigitsForMultiple.l0 k a0 1) else (some ((⟨#[]⟩ : ByteArray), false)))) = some (r1, r2) := h
  clear h
  replace H := Option.bind_eq_some_iff.mp H
  obtain ⟨t101, A20, H⟩ := H
  replace H : (if t101 = true then (spec_DigitsForMultiple.l0 k a0 1) else (some ((⟨#[]⟩ : ByteArray), false))) = some (r1, r2) := H
  have A2 := Aside0.mk A20
  clear A20
  by_cases c3 : t101 = true
  · subst c3
    have H1 : (spec_DigitsForMultiple.l0 k a0 1) = some (r1, r2) := by rw [if_pos rfl] at H; exact H
    clear H
    have H := H1
    clear H1
    have H' := Aside0.mk H
    clear H
    go_enter Try.func15, Try.ntmps15
    go_wp2_with (first | ((with_reducible refine gate_callee (f := 27) rfl ?_); refine goesL_ (some 8) rfl rfl Try.func27 (by kernel_rfl) rfl #[.int .i64 a0] rfl (by (try simp only [List.map_toArray, List.map_cons, List.map_nil]); first | done | rfl | (simp only [List.length_drop, List.length_take]; rfl)) ?_; (with_reducible refine (spec_leDivisor.calls a0 true _ A2.out).mono ?_); rintro e w' ⟨rfl, ⟨nd, rfl⟩⟩; refine ⟨_, rfl, ?_⟩))
    go_loopg [4] k (fun kq v4 w' => ∃ (x4_1 : Int), v4 = .int .i64 x4_1 ∧ Aside0 (spec_DigitsForMultiple.l0 kq a0 x4_1 = some (r1, r2)) ∧ Aside0 (kq ≤ k) ∧ Aside0 (Below w.heap.size w w'))
    case atStart => exact ⟨(1), (by first | rfl | (simp; done) | (simp [*]; done)), H', ⟨Nat.le_refl _⟩, ⟨by repeat (first | (with_reducible first | exact HB.out | apply below_alloc | apply pw_below_drewN | apply below_drew1) | exact HB.out)⟩⟩
    case round =>
      clear H'
      try clear c1
      try clear c2
      try clear p2
      try clear c3
      obtain ⟨x4_1, rfl, HA, HK1, HB⟩ := hrel
      cases gk with
      | zero => exact absurd HA.out (by simp [spec_DigitsForMultiple.l0])
      | succ k1 =>
        have H := HA.out
        clear HA
        simp only [spec_DigitsForMultiple.l0] at H
        by_cases c4 : x4_1 < 10
        · rw [if_pos c4] at H
          have c4b0 : decide (x4_1 < 10) = true := decide_eq_true c4
          clear c4
          replace H := Option.bind_eq_some_iff.mp H
          obtain ⟨t102, A50, H⟩ := H
          replace H : ((spec_leMultiple.f k1 a0 t102).bind fun bt103 => (if bt103.2 = true then ((spec_l1Num.f k1 x4_1).bind fun t105 => (some (t105, true))) else (spec_DigitsForMultiple.l0 k1 a0 (wrap64 (x4_1 + 1))))) = some (r1, r2) := H
          have A5 := Aside0.mk A50
          clear A50
          replace H := Option.bind_eq_some_iff.mp H
          obtain ⟨⟨t103, t104⟩, A60, H⟩ := H
          replace H : (if t104 = true then ((spec_l1Num.f k1 x4_1).bind fun t105 => (some (t105, true))) else (spec_DigitsForMultiple.l0 k1 a0 (wrap64 (x4_1 + 1)))) = some (r1, r2) := H
          have A6 := Aside0.mk A60
          clear A60
          by_cases c7 : t104 = true
          · subst c7
            have H1 : ((spec_l1Num.f k1 x4_1).bind fun t105 => (some (t105, true))) = some (r1, r2) := by rw [if_pos rfl] at H; exact H
            clear H
            have H := H1
            clear H1
            replace H := Option.bind_eq_some_iff.mp H
            obtain ⟨t105, A80, H⟩ := H
            replace H : (some (t105, true)) = some (r1, r2) := H
            have A8 := Aside0.mk A80
            clear A80
            simp only [Option.some.injEq, Prod.mk.injEq] at H
            obtain ⟨rfl, rfl⟩ := H
            go_wp2_with (first | ((with_reducible refine gate_callee (f := 33) rfl ?_); refine goesL_ (some 17) rfl rfl Try.func33 (by kernel_rfl) rfl #[.int .i64 x4_1] rfl (by (try simp only [List.map_toArray, List.map_cons, List.map_nil]); first | done | rfl | (simp only [List.length_drop, List.length_take]; rfl)) ?_; (with_reducible refine (spec_l1Num.calls k1 x4_1 t102 _ A5.out).mono ?_); rintro e w9 ⟨rfl, hb⟩; refine ⟨_, rfl, ?_⟩; have n0_ := Aside0.mk (below_step (by repeat (first | (with_reducible first | exact HB.out | apply below_alloc | apply pw_below_drewN | apply below_drew1) | exact HB.out)) hb); clear HB; have HB := n0_; clear n0_; (try clear hb); (try clear hb2); (try clear hk); (try clear hi)) | ((with_reducible refine gate_callee (f := 28) rfl ?_); refine goesL_ (some 18) rfl rfl Try.func28 (by kernel_rfl) rfl #[.int .i64 a0, .string t102] rfl (by (try simp only [List.map_toArray, List.map_cons, List.map_nil]); first | done | rfl | (simp only [List.length_drop, List.length_take]; rfl)) ?_; (with_reducible refine (spec_leMultiple.calls k1 a0 t102 t103 true _ A6.out).mono ?_); rintro e w10 ⟨rfl, hb⟩; refine ⟨_, rfl, ?_⟩; have n0_ := Aside0.mk (below_step (by repeat (first | (with_reducible first | exact HB.out | apply below_alloc | apply pw_below_drewN | apply below_drew1) | exact HB.out)) hb); clear HB; have HB := n0_; clear n0_; (try clear hb); (try clear hb2); (try clear hk); (try clear hi)) | ((with_reducible refine gate_callee (f := 33) rfl ?_); refine goesL_ (some 23) rfl rfl Try.func33 (by kernel_rfl) rfl #[.int .i64 x4_1] rfl (by (try simp only [List.map_toArray, List.map_cons, List.map_nil]); first | done | rfl | (simp only [List.length_drop, List.length_take]; rfl)) ?_; (with_reducible refine (spec_l1Num.calls k1 x4_1 t105 _ A8.out).mono ?_); rintro e w11 ⟨rfl, hb⟩; refine ⟨_, rfl, ?_⟩; have n0_ := Aside0.mk (below_step (by repeat (first | (with_reducible first | exact HB.out | apply below_alloc | apply pw_below_drewN | apply below_drew1) | exact HB.out)) hb); clear HB; have HB := n0_; clear n0_; (try clear hb); (try clear hb2); (try clear hk); (try clear hi)))
            go_ret2
            exact ⟨by first | rfl | (simp [errW_none, errW_some] <;> rfl) | (simp [*, errW_none, errW_some] <;> rfl), by repeat (first | (with_reducible first | exact HB.out | apply below_alloc | apply pw_below_drewN | apply below_drew1) | exact HB.out)⟩
          · replace c7 := Bool.eq_false_iff.mpr c7
            subst c7
            have H1 : (spec_DigitsForMultiple.l0 k1 a0 (wrap64 (x4_1 + 1))) = some (r1, r2) := by rw [if_neg (show ¬ (false = true) by decide)] at H; exact H
            clear H
            have H := H1
            clear H1
            have H' := Aside0.mk H
            clear H
            go_wp2_with (first | ((with_reducible refine gate_callee (f := 33) rfl ?_); refine goesL_ (some 17) rfl rfl Try.func33 (by kernel_rfl) rfl #[.int .i64 x4_1] rfl (by (try simp only [List.map_toArray, List.map_cons, List.map_nil]); first | done | rfl | (simp only [List.length_drop, List.length_take]; rfl)) ?_; (with_reducible refine (spec_l1Num.calls k1 x4_1 t102 _ A5.out).mono ?_); rintro e w12 ⟨rfl, hb⟩; refine ⟨_, rfl, ?_⟩; have n0_ := Aside0.mk (below_step (by repeat (first | (with_reducible first | exact HB.out | apply below_alloc | apply pw_below_drewN | apply below_drew1) | exact HB.out)) hb); clear HB; have HB := n0_; clear n0_; (try clear hb); (try clear hb2); (try clear hk); (try clear hi)) | ((with_reducible refine gate_callee (f := 28) rfl ?_); refine goesL_ (some 18) rfl rfl Try.func28 (by kernel_rfl) rfl #[.int .i64 a0, .string t102] rfl (by (try simp only [List.map_toArray, List.map_cons, List.map_nil]); first | done | rfl | (simp only [List.length_drop, List.length_take]; rfl)) ?_; (with_reducible refine (spec_leMultiple.calls k1 a0 t102 t103 false _ A6.out).mono ?_); rintro e w13 ⟨rfl, hb⟩; refine ⟨_, rfl, ?_⟩; have n0_ := Aside0.mk (below_step (by repeat (first | (with_reducible first | exact HB.out | apply below_alloc | apply pw_below_drewN | apply below_drew1) | exact HB.out)) hb); clear HB; have HB := n0_; clear n0_; (try clear hb); (try clear hb2); (try clear hk); (try clear hi)))
            go_roundg k1
            case measure => have := HK1.out; omega
            case rel => exact ⟨(wrap64 (x4_1 + 1)), (by first | rfl | (simp; done) | (simp [*]; done)), H', ⟨by have := HK1.out; omega⟩, ⟨by repeat (first | (with_reducible first | exact HB.out | apply below_alloc | apply pw_below_drewN | apply below_drew1) | exact HB.out)⟩⟩
        · rw [if_neg c4] at H
          have c4b0 : decide (x4_1 < 10) = false := decide_eq_false c4
          clear c4
          simp only [Option.some.injEq, Prod.mk.injEq] at H
          obtain ⟨rfl, rfl⟩ := H
          go_wp2
          go_ret2
          exact ⟨by first | rfl | (simp [errW_none, errW_some] <;> rfl) | (simp [*, errW_none, errW_some] <;> rfl), by repeat (first | (with_reducible first | exact HB.out | apply below_alloc | apply pw_below_drewN | apply below_drew1) | exact HB.out)⟩
  · replace c3 := Bool.eq_false_iff.mpr c3
    subst c3
    have H1 : (some ((⟨#[]⟩ : ByteArray), false)) = some (r1, r2) := by rw [if_neg (show ¬ (false = true) by decide)] at H; exact H
    clear H
    have H := H1
    clear H1
    simp only [Option.some.injEq, Prod.mk.injEq] at H
    obtain ⟨rfl, rfl⟩ := H
    go_enter Try.func15, Try.ntmps15
    go_wp2_with (first | ((with_reducible refine gate_callee (f := 27) rfl ?_); refine goesL_ (some 8) rfl rfl Try.func27 (by kernel_rfl) rfl #[.int .i64 a0] rfl (by (try simp only [List.map_toArray, List.map_cons, List.map_nil]); first | done | rfl | (simp only [List.length_drop, List.length_take]; rfl)) ?_; (with_reducible refine (spec_leDivisor.calls a0 false _ A2.out).mono ?_); rintro e w' ⟨rfl, ⟨nd, rfl⟩⟩; refine ⟨_, rfl, ?_⟩))
    go_ret2
    exact ⟨by first | rfl | (simp [errW_none, errW_some] <;> rfl) | (simp [*, errW_none, errW_some] <;> rfl), by repeat (first | (with_reducible first | exact HB.out | apply below_alloc | apply pw_below_drewN | apply below_drew1) | exact HB.out)⟩

end Go.Proofs.Ytpdcjkiejglaiaa.Q

/-
  'multiple': what the function that it pushes with (a closure over the number, the marks and the list) does to them: conditions: the rest lies below the number, the marks are as many as the number.
-/
namespace Go.Proofs.Ytpdcjkiejglaiaa.Q
open Go.RowKit Go.Proofs.YtpdcjkiejglaiaaW.PrintWords Go.Proofs.YtpdcjkiejglaiaaW.PrintLast Go.Proofs.YtpdcjkiejglaiaaW.PrintMore
set_option linter.unusedVariables false
set_option linter.unusedSimpArgs false

theorem info56 : (Try.prog.info? 56).map (fun i => (i.zero, i.size, i.bytes)) = some (some (.agg #[.int .i64 0, .int .i64 0, .int .u8 0]), 3, 24) := by kernel_rfl

/-- the variables that the function captures, and the rows that they lead to -/
structure MulW (w0 w : World) (bn bm bl : Nat) (n : Int) (vm vb vl : Value) (met : List Bool) (list : List S56) (F : List (Nat × Array Value × Nat × Nat)) : Prop where
  below : Below w0.heap.size w0 w
  cn : w.heap[bn]? = some (.cells #[.int .i64 n] 3 (0, 0))
  cm : w.heap[bm]? = some (.cells #[vm] 52 (0, 0))
  cl : w.heap[bl]? = some (.cells #[vb] 54 (0, 0))
  gn : w0.heap.size ≤ bn
  gm : w0.heap.size ≤ bm
  gl : w0.heap.size ≤ bl
  met : Kd.R Kd.bool 4 w w0.heap.size (fun _ => True) vm met
  list : Kd.R k56 56 w w0.heap.size (fun _ => True) vl list
  ext : ∀ p ∈ F, w.heap[p.1]? = some (.cells p.2.1 5 p.2.2)

theorem heap_set_other {w : World} {g j k : Nat} (u : Value) (h : k ≠ g) : (w.setCell ⟨g, j, none⟩ u).heap[k]? = w.heap[k]? := Below.heap_setCell _ _ _ _ (fun e => h e)
theorem MulW.mark {w0 w : World} {bn bm bl g len c : Nat} {n : Int} {vb vl : Value} {met : List Bool} {list : List S56} {F : List (Nat × Array Value × Nat × Nat)} (H : MulW w0 w bn bm bl n (.slice (some ⟨g, 0, none⟩) len c) vb vl met list F)
    (hG : ∃ cells, w.heap[g]? = some (.cells cells 4 (0, 0))) (r : Int) :
    MulW w0 (w.setCell ⟨g, r.toNat, none⟩ (.bool true)) bn bm bl n (.slice (some ⟨g, 0, none⟩) len c) vb vl (met.set r.toNat true) list F := by
  obtain ⟨cells, hG⟩ := hG
  have hgb : w0.heap.size ≤ g := Kd.R_base H.met g (by simp [Value.ownBlock])
  have ne : ∀ {k t : Nat} {cs : Array Value} {fz : Nat × Nat}, w.heap[k]? = some (.cells cs t fz) → t ≠ 4 → k ≠ g := by
    intro k t cs fz hk ht e
    subst e
    rw [hG] at hk
    injection hk with hk
    injection hk with _ hk
    exact ht hk.symm
  have hp := Kd.R_putg H.met r true
  exact ⟨below_set H.below hgb, by rw [heap_set_other _ (ne H.cn (by decide))]; exact H.cn, by rw [heap_set_other _ (ne H.cm (by decide))]; exact H.cm, by rw [heap_set_other _ (ne H.cl (by decide))]; exact H.cl, H.gn, H.gm, H.gl, hp.1,
    Kd.R_over' (v := .slice (some ⟨g, 0, none⟩) len c) H.list (Kd.R_typed H.met) (by decide) hp.2, fun p hp' => by rw [heap_set_other _ (ne (H.ext p hp') (by decide))]; exact H.ext p hp'⟩
theorem MulW.grown {w0 w w1 : World} {bn bm bl : Nat} {n : Int} {vm vb vl v1 : Value} {met : List Bool} {list list1 : List S56} {F : List (Nat × Array Value × Nat × Nat)} (H : MulW w0 w bn bm bl n vm vb vl met list F)
    (ho : Kd.R k56 56 w1 w0.heap.size (fun _ => True) v1 list1) (hb : Below w0.heap.size w0 w1) (hg : w.grownBy w1 vl.ownBlock) : MulW w0 w1 bn bm bl n vm vb v1 met list1 F := by
  have ne : ∀ {k t : Nat} {cs : Array Value} {fz : Nat × Nat}, w.heap[k]? = some (.cells cs t fz) → t ≠ 56 → w1.heap[k]? = some (.cells cs t fz) := by
    intro k t cs fz hk ht
    rw [hg.block k (lt_of_block hk) (fun e => ?_)]
    · exact hk
    · obtain ⟨cells, hc⟩ := Kd.R_typed H.list k e.symm
      rw [hc] at hk
      injection hk with hk
      injection hk with _ hk
      exact ht hk.symm
  exact ⟨hb, ne H.cn (by decide), ne H.cm (by decide), ne H.cl (by decide), H.gn, H.gm, H.gl, Kd.R_over' H.met (Kd.R_typed H.list) (by decide) hg, ho, fun p hp => ne (H.ext p hp) (by decide)⟩
theorem MulW.box {w0 w : World} {bn bm bl : Nat} {n : Int} {vm vb vl : Value} {met : List Bool} {list : List S56} {F : List (Nat × Array Value × Nat × Nat)} (H : MulW w0 w bn bm bl n vm vb vl met list F) (vb' : Value) :
    MulW w0 (w.setCell ⟨bl, 0, none⟩ vb') bn bm bl n vm vb' vl met list F := by
  have ne : ∀ {k t : Nat} {cs : Array Value} {fz : Nat × Nat}, w.heap[k]? = some (.cells cs t fz) → t ≠ 54 → k ≠ bl := by
    intro k t cs fz hk ht e
    subst e
    rw [H.cl] at hk
    injection hk with hk
    injection hk with _ hk
    exact ht hk.symm
  exact ⟨below_set H.below H.gl, by rw [heap_set_other _ (ne H.cn (by decide))]; exact H.cn, by rw [heap_set_other _ (ne H.cm (by decide))]; exact H.cm, one_setCell H.cl, H.gn, H.gm, H.gl, Kd.R_set H.met H.cl (by decide) _ _, Kd.R_set H.list H.cl (by decide) _ _, fun p hp => by rw [heap_set_other _ (ne (H.ext p hp) (by decide))]; exact H.ext p hp⟩
theorem MulW.drewN {w0 w : World} {bn bm bl : Nat} {n : Int} {vm vb vl : Value} {met : List Bool} {list : List S56} {F : List (Nat × Array Value × Nat × Nat)} (H : MulW w0 w bn bm bl n vm vb vl met list F) (k : Nat) : MulW w0 (w.drewN k) bn bm bl n vm vb vl met list F :=
  ⟨pw_below_drewN H.below k, H.cn, H.cm, H.cl, H.gn, H.gm, H.gl, Kd.R_drewN H.met k, Kd.R_drewN H.list k, H.ext⟩
theorem MulW.alloc {w0 w : World} {bn bm bl : Nat} {n : Int} {vm vb vl : Value} {met : List Bool} {list : List S56} {F : List (Nat × Array Value × Nat × Nat)} (H : MulW w0 w bn bm bl n vm vb vl met list F) (o : Obj) : MulW w0 (w.alloc o) bn bm bl n vm vb vl met list F := by
  have al : ∀ {k : Nat} {x : Obj}, w.heap[k]? = some x → (w.alloc o).heap[k]? = some x := fun hk => ((below_alloc (Below.refl w.heap.size w) o).block _ (lt_of_block hk)).trans hk
  exact ⟨below_alloc H.below o, al H.cn, al H.cm, al H.cl, H.gn, H.gm, H.gl, Kd.R_alloc H.met o, Kd.R_alloc H.list o, fun p hp => al (H.ext p hp)⟩

/-- the rest behind one digit more -/
def nextRest (n rest d : Int) : Int := (10 * rest + (d - 48)) % n
theorem nextRest_lt {n : Int} (hn : 0 < n) (rest d : Int) : 0 ≤ nextRest n rest d ∧ nextRest n rest d < n :=
  ⟨Int.emod_nonneg _ (by omega), Int.emod_lt_of_pos _ hn⟩

set_option maxHeartbeats 1000000 in
theorem push_hit {w0 w : World} {bn bm bl : Nat} {n : Int} {vm vl : Value} {met : List Bool} {list : List S56} {F : List (Nat × Array Value × Nat × Nat)} (H : MulW w0 w bn bm bl n vm vl vl met list F)
    (before rest d : Int) (hn : 0 < n) (hn4 : n ≤ 400) (h0 : 0 ≤ rest) (h1 : rest < n) (hd0 : 48 ≤ d) (hd1 : d ≤ 57) (hm : (met.length : Int) = n) (hit : rdOf false met (nextRest n rest d) = true) :
    Calls Try.prog 57 #[.int .i64 before, .int .i64 rest, .int .u8 d, .pointer (some ⟨bn, 0, none⟩), .pointer (some ⟨bm, 0, none⟩), .pointer (some ⟨bl, 0, none⟩)] w fun e w' => e = .returned (.tuple #[]) ∧ MulW w0 w' bn bm bl n vm vl vl met list F := by
  obtain ⟨r, hr⟩ : ∃ r, r = nextRest n rest d := ⟨_, rfl⟩
  have hrl := nextRest_lt hn rest d
  rw [← hr] at hrl hit
  have HX := Aside0.mk H
  have e0 : (d - 48) % 256 = d - 48 := by omega
  have e1 : (10 * rest + (d - 48)).tmod n = r := by rw [hr, nextRest, Int.tmod_eq_emod_of_nonneg (by omega)]
  have cn := cell_of_one H.cn
  have cm := cell_of_one H.cm
  have cl := cell_of_one H.cl
  obtain ⟨A, c, hv⟩ := Kd.R_slice H.met
  subst hv
  obtain ⟨ad, ha, hcell⟩ := Kd.at_bool (Kd.R_reads' H.met).2.2 r hrl.1 (by omega)
  subst ha
  rw [hit] at hcell
  clear H
  have HR := Aside0.mk hr
  clear hr
  go_enter Try.func57, Try.ntmps57
  go_wp2
  go_end0
  exact ⟨rfl, HX.out⟩

set_option maxHeartbeats 2000000 in
set_option maxRecDepth 100000 in
theorem push_new {w0 w : World} {bn bm bl : Nat} {n : Int} {vm vl : Value} {met : List Bool} {list : List S56} {F : List (Nat × Array Value × Nat × Nat)} (H : MulW w0 w bn bm bl n vm vl vl met list F)
    (before rest d : Int) (hn : 0 < n) (hn4 : n ≤ 400) (h0 : 0 ≤ rest) (h1 : rest < n) (hd0 : 48 ≤ d) (hd1 : d ≤ 57) (hm : (met.length : Int) = n) (hit : rdOf false met (nextRest n rest d) = false) (hlen : list.length ≤ 1000) :
    Calls Try.prog 57 #[.int .i64 before, .int .i64 rest, .int .u8 d, .pointer (some ⟨bn, 0, none⟩), .pointer (some ⟨bm, 0, none⟩), .pointer (some ⟨bl, 0, none⟩)] w fun e w' => e = .returned (.tuple #[]) ∧
      ∃ vl', MulW w0 w' bn bm bl n vm vl' vl' (met.set (nextRest n rest d).toNat true) (list ++ [⟨nextRest n rest d, before, d⟩]) F := by
  obtain ⟨r, hr⟩ : ∃ r, r = nextRest n rest d := ⟨_, rfl⟩
  have hrl := nextRest_lt hn rest d
  rw [← hr] at hrl hit ⊢
  have e0 : (d - 48) % 256 = d - 48 := by omega
  have e1 : (10 * rest + (d - 48)).tmod n = r := by rw [hr, nextRest, Int.tmod_eq_emod_of_nonneg (by omega)]
  have cn := cell_of_one H.cn
  have cm := cell_of_one H.cm
  have cl := cell_of_one H.cl
  obtain ⟨g, c, hv, _, _, hG⟩ := Kd.R_form H.met (by omega)
  subst hv
  obtain ⟨hcell, hfree⟩ := Kd.R_celln false H.met r hrl.1 (by omega)
  have HM := Aside0.mk (H.mark hG r)
  have cl1 := cell_of_one HM.out.cl
  have hcell' : w.cell? ⟨g, r.toNat, none⟩ = some (.bool false) := by rw [← hit]; exact hcell
  clear H hG hcell
  have HR := Aside0.mk hr
  clear hr
  go_enter Try.func57, Try.ntmps57
  go_wp2_with (first | ((with_reducible refine gate_store (t := 4) (p := 24) rfl ?_); refine store_event (t := 4) (p := 24) (v := ?vo) (w1 := (w.setCell ⟨g, r.toNat, none⟩ (.bool true))) ?hg ?ho ?hn ?hr ?_; (case ho => rfl); (case hg => rfl); (case hn => rfl); (case hr => first | (go_simp; done) | (go_simp; rfl)); intro w1 hw; rw [← hw] at HM cl1; clear hw cn cm cl hcell' hfree) | ((with_reducible refine gate_builtin (b := .append) (xs := #[.tmp 25, .tmp 30]) rfl ?_); at_builtin; refine Kd.R_append k56 (w0 := w0) w0.heap.size rfl (.tmp 25) (.tmp 30) 54 56 (.agg #[.int .i64 0, .int .i64 0, .int .u8 0]) 24 rfl Try.underlying54 info56 rfl (by decide) (by omega) vl list ⟨r, before, d⟩ [.int .i64 r, .int .i64 before, .int .u8 d] (fun _ => True) (fun _ => False) rfl rfl ?aP (fun _ hk => hk.elim) ?aF ?aO ?aB ?aS ?aL ?_; (case aP => exact k56_mkM _ _ _ _); (case aF => exact fun _ _ => trivial); (case aO => exact HM.out.list); (case aB => exact HM.out.below); (case aS => exact below_size HM.out.below); (case aL => omega); intro v1 w2 ho hb hg hat; have H2 := Aside0.mk (HM.out.grown ho hb hg); have cl2 := cell_of_one H2.out.cl; have fl2 := free_of_one H2.out.cl; (have hcut : ∃ A n_ c_, v1 = .slice A n_ c_ := (by obtain ⟨A, c_, e_⟩ := Kd.R_slice ho; exact ⟨A, _, c_, e_⟩)); clear ho hb hg hat HM cl1; obtain ⟨A1, n1, c1, e1_⟩ := hcut; subst e1_))
  go_end0
  exact ⟨rfl, _, H2.out.box _⟩

end Go.Proofs.Ytpdcjkiejglaiaa.Q

/-
  'multiple' in plain words: a search over rests, the first met first, each with the place from which it was met and the digit; and the digits that lead to a rest.
-/
namespace Go.Proofs.Ytpdcjkiejglaiaa.Q
open Go.RowKit Go.Proofs.YtpdcjkiejglaiaaW.PrintWords Go.Proofs.YtpdcjkiejglaiaaW.PrintLast Go.Proofs.YtpdcjkiejglaiaaW.PrintMore
set_option linter.unusedVariables false
set_option linter.unusedSimpArgs false

structure MSt where
  met : List Bool
  list : List S56
def mpush (n before rest d : Int) (s : MSt) : MSt :=
  if rdOf false s.met (nextRest n rest d) = true then s else ⟨s.met.set (nextRest n rest d).toNat true, s.list ++ [⟨nextRest n rest d, before, d⟩]⟩
def mfirst (n : Int) : List Int → MSt → MSt
  | [], s => s
  | d :: l, s => mfirst n l (if d = 48 then s else mpush n (-1) 0 d s)
def mall (n before rest : Int) : List Int → MSt → MSt
  | [], s => s
  | d :: l, s => mall n before rest l (mpush n before rest d s)
def chain (list : List S56) : Nat → Int → List Int
  | 0, _ => []
  | f + 1, k => if 0 ≤ k then (rd_T56 list k).f2 :: chain list f (rd_T56 list k).f1 else []
def mscan (n : Int) (ds : List Int) : Nat → Nat → MSt → ByteArray × Bool
  | 0, _, _ => (⟨#[]⟩, false)
  | f + 1, i, s => if i < s.list.length then
      (if (rd_T56 s.list (i : Int)).f0 = 0 then (strOfNums (chain s.list 401 (i : Int)).reverse, true) else mscan n ds f (i + 1) (mall n (i : Int) (rd_T56 s.list (i : Int)).f0 ds s))
    else (⟨#[]⟩, false)

/-- what holds of the marks and the list all along -/
structure MInv (n : Nat) (s : MSt) : Prop where
  len : s.met.length = n
  cnt : s.list.length = s.met.count true
  rest : ∀ j : Nat, j < s.list.length → 0 ≤ (rd_T56 s.list j).f0 ∧ (rd_T56 s.list j).f0 < n
  before : ∀ j : Nat, j < s.list.length → -1 ≤ (rd_T56 s.list j).f1 ∧ (rd_T56 s.list j).f1 < j
  dig : ∀ j : Nat, j < s.list.length → 48 ≤ (rd_T56 s.list j).f2 ∧ (rd_T56 s.list j).f2 ≤ 57
theorem MInv.le {n : Nat} {s : MSt} (h : MInv n s) : s.list.length ≤ n := by
  rw [h.cnt, ← h.len]
  exact List.count_le_length
theorem count_set : ∀ (l : List Bool) (r : Nat), r < l.length → l.getD r false = false → (l.set r true).count true = l.count true + 1
  | [], r, h, _ => by simp at h
  | b :: l, 0, _, h => by
    have : b = false := by simpa using h
    subst this
    simp
  | b :: l, r + 1, h, hf => by
    have ih := count_set l r (by simpa using h) (by simpa using hf)
    simp only [List.set_cons_succ, List.count_cons, ih]
    omega
theorem rd_append (l : List S56) (x : S56) (j : Nat) : rd_T56 (l ++ [x]) (j : Int) = if j < l.length then rd_T56 l (j : Int) else if j = l.length then x else z56 := by
  unfold rd_T56
  simp only [Int.toNat_natCast, List.getD_eq_getElem?_getD]
  by_cases h : j < l.length
  · rw [if_pos h, List.getElem?_append_left h]
  · rw [if_neg h, List.getElem?_append_right (by omega)]
    by_cases e : j = l.length
    · rw [if_pos e]; simp [e]
    · rw [if_neg e, List.getElem?_eq_none (by simp; omega)]; rfl
theorem MInv.push {n : Nat} {s : MSt} (h : MInv n s) (hn : 0 < n) (before rest d : Int) (hb1 : -1 ≤ before) (hb2 : before < s.list.length) (hd1 : 48 ≤ d) (hd2 : d ≤ 57) : MInv n (mpush n before rest d s) := by
  unfold mpush
  have hr := nextRest_lt (n := n) (by omega) rest d
  split
  · exact h
  · rename_i hm
    have hm' : rdOf false s.met (nextRest n rest d) = false := by simpa using hm
    refine ⟨by simp [h.len], ?_, ?_, ?_, ?_⟩
    · simp only [List.length_append, List.length_singleton]
      rw [count_set _ _ (by rw [h.len]; omega) hm', h.cnt]
    · intro j hj
      simp only [List.length_append, List.length_singleton] at hj
      rw [rd_append]
      by_cases e : j < s.list.length
      · rw [if_pos e]; exact h.rest j e
      · rw [if_neg e, if_pos (by omega)]; exact hr
    · intro j hj
      simp only [List.length_append, List.length_singleton] at hj
      rw [rd_append]
      by_cases e : j < s.list.length
      · rw [if_pos e]; exact h.before j e
      · rw [if_neg e, if_pos (by omega)]; exact ⟨hb1, by show before < _; omega⟩
    · intro j hj
      simp only [List.length_append, List.length_singleton] at hj
      rw [rd_append]
      by_cases e : j < s.list.length
      · rw [if_pos e]; exact h.dig j e
      · rw [if_neg e, if_pos (by omega)]; exact ⟨hd1, hd2⟩
theorem mpush_le (n before rest d : Int) (s : MSt) : s.list.length ≤ (mpush n before rest d s).list.length := by
  unfold mpush
  split
  · exact Nat.le_refl _
  · simp
theorem MInv.first {n : Nat} (hn : 0 < n) : ∀ (ds : List Int), (∀ d ∈ ds, 48 ≤ d ∧ d ≤ 57) → ∀ {s : MSt}, MInv n s → MInv n (mfirst n ds s)
  | [], _, _, h => h
  | d :: l, hd, s, h => by
    have hdd := hd d (List.mem_cons_self ..)
    refine MInv.first hn l (fun x hx => hd x (List.mem_cons_of_mem _ hx)) ?_
    split
    · exact h
    · exact h.push hn _ _ _ (by omega) (by omega) hdd.1 hdd.2
theorem MInv.all {n : Nat} (hn : 0 < n) (before rest : Int) (hb : -1 ≤ before) : ∀ (ds : List Int), (∀ d ∈ ds, 48 ≤ d ∧ d ≤ 57) → ∀ {s : MSt}, before < s.list.length → MInv n s → MInv n (mall n before rest ds s) ∧ s.list.length ≤ (mall n before rest ds s).list.length
  | [], _, _, _, h => ⟨h, Nat.le_refl _⟩
  | d :: l, hd, s, hlt, h => by
    have hdd := hd d (List.mem_cons_self ..)
    have hle := mpush_le n before rest d s
    have ih := MInv.all hn before rest hb l (fun x hx => hd x (List.mem_cons_of_mem _ hx)) (s := mpush n before rest d s) (by omega) (h.push hn _ _ _ hb hlt hdd.1 hdd.2)
    exact ⟨ih.1, Nat.le_trans hle ih.2⟩
theorem MInv.init (n : Nat) : MInv n ⟨List.replicate n false, []⟩ :=
  ⟨by simp, by simp [List.count_replicate], fun j h => by simp at h, fun j h => by simp at h, fun j h => by simp at h⟩

end Go.Proofs.Ytpdcjkiejglaiaa.Q

/-
  Plain lemmas on texts as lists of numbers, on sums that do not wrap, and on functions with rounds. No program here.
-/
namespace Go.Proofs.Ytpdcjkiejglaiaa.Q
open Go.RowKit Go.Proofs.YtpdcjkiejglaiaaW.PrintWords Go.Proofs.YtpdcjkiejglaiaaW.PrintLast Go.Proofs.YtpdcjkiejglaiaaW.PrintMore
set_option linter.unusedVariables false
set_option linter.unusedSimpArgs false

theorem wrap_id {i : Int} (h1 : -9223372036854775808 ≤ i) (h2 : i < 9223372036854775808) : wrap64 i = i := by
  unfold wrap64
  omega

/-- the bytes of a text, as numbers -/
def li (s : ByteArray) : List Int := s.data.toList.map fun c => (c.toNat : Int)
theorem li_length (s : ByteArray) : (li s).length = s.size := by
  unfold li
  rw [List.length_map, Array.length_toList]
  rfl
theorem bt_li (s : ByteArray) (i : Int) : bt s i = (li s).getD i.toNat 0 := by
  unfold bt li
  by_cases h : i.toNat < s.size
  · rw [dif_pos h]
    have h' : i.toNat < s.data.toList.length := by rw [Array.length_toList]; exact h
    rw [List.getD_eq_getElem?_getD, List.getElem?_map, List.getElem?_eq_getElem h']
    rfl
  · rw [dif_neg h]
    have h' : ¬ i.toNat < s.data.toList.length := by rw [Array.length_toList]; exact h
    rw [List.getD_eq_getElem?_getD, List.getElem?_map, List.getElem?_eq_none (by omega)]
    rfl
theorem li_extract (s : ByteArray) (a b : Nat) : li (s.extract a b) = ((li s).drop a).take (b - a) := by
  unfold li
  rw [Lib.extract_data, List.map_take, List.map_drop]
theorem li_append (s t : ByteArray) : li (s ++ t) = li s ++ li t := by
  unfold li
  rw [ByteArray.data_append, Array.toList_append, List.map_append]
theorem toNat_inj {a b : UInt8} (h : (a.toNat : Int) = (b.toNat : Int)) : a = b := UInt8.toNat_inj.1 (by omega)
theorem map_toNat_inj : ∀ {a b : List UInt8}, a.map (fun c => (c.toNat : Int)) = b.map (fun c => (c.toNat : Int)) → a = b
  | [], [], _ => rfl
  | [], _ :: _, h => by simp at h
  | _ :: _, [], h => by simp at h
  | x :: a, y :: b, h => by
    simp only [List.map_cons, List.cons.injEq] at h
    rw [toNat_inj h.1, map_toNat_inj h.2]
theorem li_inj {a b : ByteArray} (h : li a = li b) : a = b := by
  have := map_toNat_inj h
  cases a; cases b
  simp at this ⊢
  exact this
theorem toList_li (a b : ByteArray) : a.toList = b.toList ↔ li a = li b := by
  rw [ByteArray.toList_eq, ByteArray.toList_eq]
  constructor
  · intro h; unfold li; rw [h]
  · exact fun h => map_toNat_inj h
theorem li_range (s : ByteArray) : ∀ x ∈ li s, 0 ≤ x ∧ x ≤ 255 := by
  intro x hx
  unfold li at hx
  obtain ⟨c, _, rfl⟩ := List.mem_map.1 hx
  have := c.toNat_lt
  omega
theorem beq_li (a b : ByteArray) : (a.toList == b.toList) = decide (li a = li b) := by
  rw [Bool.eq_iff_iff]
  simp only [beq_iff_eq, decide_eq_true_eq]
  exact toList_li a b
theorem size_li {s : ByteArray} {l : List Int} (h : li s = l) : s.size = l.length := by rw [← h, li_length]
/-- a text is told by its bytes -/
theorem li_ext {a b : ByteArray} (h : a.size = b.size) (hb : ∀ i : Nat, i < a.size → bt a i = bt b i) : li a = li b := by
  apply List.ext_getElem (by rw [li_length, li_length, h])
  intro i h1 h2
  have := hb i (by rw [li_length] at h1; exact h1)
  rw [bt_li, bt_li, List.getD_eq_getElem?_getD, List.getD_eq_getElem?_getD] at this
  simpa [h1, h2] using this
theorem bt_extract0 (s : ByteArray) (n : Nat) (hn : n ≤ s.size) (i : Nat) (hi : i < n) : bt (s.extract 0 n) i = bt s i := by
  rw [bt_li, bt_li, li_extract]
  simp [List.getD_eq_getElem?_getD, List.getElem?_take, hi]
theorem size_extract0 (s : ByteArray) (n : Nat) (hn : n ≤ s.size) : (s.extract 0 n).size = n := by
  rw [ByteArray.size_extract]; omega

/-! functions with rounds -/
theorem Ev.some_of {α : Type} {g : Nat → Option α} {r : α} (h : ∀ k, g k = some r) : Ev g r := ⟨0, fun k _ => h k⟩
theorem Ev.eq {α : Type} {g : Nat → Option α} {r q : α} (h : Ev g r) (e : r = q) : Ev g q := e ▸ h
theorem Ev.bind' {α β : Type} {g : Nat → Option α} {f : Nat → α → Option β} {a : α} {r : β} (h : Ev g a) (k : Ev (fun n => f n a) r) : Ev (fun n => (g n).bind fun x => f n x) r := Ev.bind h k
theorem Ev.pos {α : Type} {c : Prop} [Decidable c] {g f : Nat → Option α} {r : α} (hc : c) (h : Ev g r) : Ev (fun k => if c then g k else f k) r := by
  obtain ⟨K, h⟩ := h
  exact ⟨K, fun k hk => by show (if c then g k else f k) = some r; rw [if_pos hc]; exact h k hk⟩
theorem Ev.neg {α : Type} {c : Prop} [Decidable c] {g f : Nat → Option α} {r : α} (hc : ¬ c) (h : Ev f r) : Ev (fun k => if c then g k else f k) r := by
  obtain ⟨K, h⟩ := h
  exact ⟨K, fun k hk => by show (if c then g k else f k) = some r; rw [if_neg hc]; exact h k hk⟩

end Go.Proofs.Ytpdcjkiejglaiaa.Q

/- Laid by a program of this session (wip/tools/own_print.py) over the translation of this seat: contracts of the functions that the statement reaches. -/
namespace Go.Proofs.Ytpdcjkiejglaiaa.Q
open Go.RowKit Go.Proofs.YtpdcjkiejglaiaaW.PrintWords Go.Proofs.YtpdcjkiejglaiaaW.PrintLast Go.Proofs.YtpdcjkiejglaiaaW.PrintMore
attribute [local go_sem] max2_int min2_int max_two min_two max_three min_three max_four min_four   -- for this text's walks alone
set_option linter.unusedVariables false
set_option linter.unusedSimpArgs false

/-! ### slices_Reverse_byte_byte: function 58 -/
def slices_Reverse_byte_byte.l0 : Nat → List Int → Int → Int → Option (List Int)
  | 0, _, _, _ => none
  | k + 1, x0, x2, x3 => if x2 < x3 then (if 0 ≤ x3 then (if x3 < (x0.length : Int) then (if 0 ≤ x2 then (if x2 < (x0.length : Int) then (slices_Reverse_byte_byte.l0 k ((x0.set (x2 : Int).toNat (rd x0 x3)).set (x3 : Int).toNat (rd x0 x2)) (wrap64 (x2 + 1)) (wrap64 (x3 - 1))) else (none)) else (none)) else (none)) else (none)) else (some x0)
def slices_Reverse_byte_byte.f (k : Nat) (l0 : List Int) : Option (List Int) := slices_Reverse_byte_byte.l0 k l0 0 (wrap64 ((l0.length : Int) - 1))
theorem slices_Reverse_byte_byte.mono_l : ∀ k, (∀ y0 y1 y2, LeO (slices_Reverse_byte_byte.l0 k y0 y1 y2) (slices_Reverse_byte_byte.l0 (k + 1) y0 y1 y2))
  | 0 => fun _ _ _ r h => by simp [slices_Reverse_byte_byte.l0] at h
  | k + 1 => by
    have ih0 := slices_Reverse_byte_byte.mono_l k
    · intro y0 y1 y2
      unfold slices_Reverse_byte_byte.l0
      repeat' first
      | (with_reducible exact ih0 _ _ _)
      | (with_reducible exact LeO.refl _)
      | (with_reducible exact LeO.none _)
      | (with_reducible refine LeO.ite ?_ ?_)
      | (with_reducible refine LeO.bind ?_ (fun _ => ?_))
      | exact ih0 _ _ _
      | exact LeO.none _
      | refine LeO.ite ?_ ?_
      | refine LeO.bind ?_ (fun _ => ?_)
theorem slices_Reverse_byte_byte.mono : ∀ a0 k, LeO (slices_Reverse_byte_byte.f k a0) (slices_Reverse_byte_byte.f (k + 1) a0) := by
  intro a0 k
  have ih0 := slices_Reverse_byte_byte.mono_l k
  unfold slices_Reverse_byte_byte.f
  repeat' first
      | (with_reducible exact ih0 _ _ _)
      | (with_reducible exact LeO.refl _)
      | (with_reducible exact LeO.none _)
      | (with_reducible refine LeO.ite ?_ ?_)
      | (with_reducible refine LeO.bind ?_ (fun _ => ?_))
      | exact ih0 _ _ _
      | exact LeO.none _
      | refine LeO.ite ?_ ?_
      | refine LeO.bind ?_ (fun _ => ?_)
def slices_Reverse_byte_byte.T3 : Bool × List (List Nat × List Nat) := (true, [([], []), ([], []), ([], []), ([], []), ([], []), ([], []), ([4, 5], [4, 5]), ([6], [6]), ([], []), ([], []), ([8, 9], [8, 9]), ([10], [10]), ([0, 1, 0, 1, 4, 5, 6, 7, 11], [0, 1]), ([12, 7, 0, 1, 4, 5, 6, 7, 11], [7, 12]), ([2, 3, 0, 1, 2, 3, 4, 5, 6, 7, 8, 9, 10, 11, 12, 13], [2, 3]), ([14, 11, 13, 0, 1, 2, 3, 4, 5, 6, 7, 8, 9, 10, 11, 12, 13], [11, 14])])
def slices_Reverse_byte_byte.B3 : List Nat := [0, 0, 0, 0, 0, 0, 48, 112, 0, 0, 768, 1792, 4083, 8179, 16383, 32767]
theorem slices_Reverse_byte_byte.tab3 : rtab .any (opsOf Try.f58 3) = slices_Reverse_byte_byte.T3 := by kernel_rfl
theorem slices_Reverse_byte_byte.bits3 : waitsOk slices_Reverse_byte_byte.T3.2 slices_Reverse_byte_byte.B3 = true := by kernel_rfl
set_option maxHeartbeats 8000000 in
set_option maxRecDepth 100000 in
theorem slices_Reverse_byte_byte.calls (k : Nat) (P0_ : Nat → Prop) (u9000_ : Value) (l0 : List Int) (r : List Int) (w0 w : World) (hB : Below w0.heap.size w0 w) (ho0 : Kd.R (Kd.int .u8) 5 w w0.heap.size P0_ u9000_ l0) (h : slices_Reverse_byte_byte.f k l0 = some r) :
    Calls Try.prog 58 #[u9000_] w fun e w' => e = .returned (.tuple #[]) ∧ Kd.R (Kd.int .u8) 5 w' w0.heap.size (fun k_ => (P0_ k_ ∨ w.heap.size ≤ k_)) u9000_ r ∧ Below w0.heap.size w0 w' ∧ Kept w w' (fun k_ => P0_ k_) := by
  have HO0 := Aside0.mk (show Kd.R (Kd.int .u8) 5 w w0.heap.size (fun k_ => (P0_ k_ ∨ w.heap.size ≤ k_)) u9000_ l0 from Kd.R_mono ho0 (fun k_ hk => (.inl hk)))
  have HK := Aside0.mk (Kept.refl w (fun k_ => P0_ k_))
  have HW0 := Aside0.mk hB.size
  have HB := Aside0.mk hB
  clear hB
  have H : (slices_Reverse_byte_byte.l0 k l0 0 (wrap64 ((l0.length : Int) - 1))) = some r := h
  clear h
  have H' := Aside0.mk H
  clear H
  obtain ⟨Ao2, co2, eo2⟩ := Kd.R_slice HO0.out
  subst eo2
  go_enter Try.func58, Try.ntmps58
  go_wp2
  go_loopg [2, 3] k (fun kq v2 v3 w' => ∃ (x0_1 : List Int) (x2_1 : Int) (x3_1 : Int), v2 = .int .i64 x2_1 ∧ v3 = .int .i64 x3_1 ∧ Aside0 (slices_Reverse_byte_byte.l0 kq x0_1 x2_1 x3_1 = some r) ∧ Aside0 (kq ≤ k) ∧ Aside0 (Kd.R (Kd.int .u8) 5 w' w0.heap.size (fun k_ => (P0_ k_ ∨ w.heap.size ≤ k_)) (.slice Ao2 l0.length co2) x0_1) ∧ Aside0 (Kept w w' (fun k_ => P0_ k_)) ∧ Aside0 (Below w0.heap.size w0 w'))
  case atStart => exact ⟨(l0), (0), (wrap64 ((l0.length : Int) - 1)), (by first | rfl | (simp; done) | (simp [*]; done)), (by first | rfl | (simp; done) | (simp [*]; done)), H', ⟨Nat.le_refl _⟩, ⟨by (with_reducible repeat (first | apply Kd.R_alloc | apply Kd.R_drewN | apply Kd.R_drew)); exact HO0.out⟩, ⟨by repeat (first | (with_reducible first | exact HK.out | apply Kept.alloc | apply Kept.drewN | apply Kept.drew) | exact HK.out)⟩, ⟨by repeat (first | (with_reducible first | exact HB.out | apply below_alloc | apply pw_below_drewN | apply below_drew1) | exact HB.out)⟩⟩
  case round =>
    clear H'
    try clear p2
    obtain ⟨x0_1, x2_1, x3_1, rfl, rfl, HA, HK1, HO_0, HK, HB⟩ := hrel
    have hl0_1 := (Kd.R_reads' HO_0.out).1
    rw [hl0_1] at HO_0
    (try simp only [hl0_1])
    cases gk with
    | zero => exact absurd HA.out (by simp [slices_Reverse_byte_byte.l0])
    | succ k1 =>
      have H := HA.out
      clear HA
      simp only [slices_Reverse_byte_byte.l0] at H
      by_cases c3 : x2_1 < x3_1
      · rw [if_pos c3] at H
        have c3b0 : decide (x2_1 < x3_1) = true := decide_eq_true c3
        clear c3
        by_cases c4 : 0 ≤ x3_1
        · rw [if_pos c4] at H
          have c4b0 : decide (0 ≤ x3_1) = true := decide_eq_true c4
          clear c4
          by_cases c5 : x3_1 < (x0_1.length : Int)
          · rw [if_pos c5] at H
            have c5b0 : decide (x3_1 < (x0_1.length : Int)) = true := decide_eq_true c5
            clear c5
            by_cases c6 : 0 ≤ x2_1
            · rw [if_pos c6] at H
              have c6b0 : decide (0 ≤ x2_1) = true := decide_eq_true c6
              clear c6
              by_cases c7 : x2_1 < (x0_1.length : Int)
              · rw [if_pos c7] at H
                have c7b0 : decide (x2_1 < (x0_1.length : Int)) = true := decide_eq_true c7
                clear c7
                obtain ⟨y103, hy103⟩ : ∃ y_ : List Int, y_ = (x0_1.set (x2_1 : Int).toNat (rd x0_1 x3_1)) := ⟨_, rfl⟩
                replace H : (slices_Reverse_byte_byte.l0 k1 (y103.set (x3_1 : Int).toNat (rd x0_1 x2_1)) (wrap64 (x2_1 + 1)) (wrap64 (x3_1 - 1))) = some r := by first | (rw [hy103]; with_reducible exact H) | (have H2_ := (Option.bind_some _ _).symm.trans H; rw [hy103]; with_reducible exact H2_) | (have H2_ := (Option.bind_some _ _).symm.trans H; with_reducible exact H2_) | with_reducible exact H | (rw [hy103]; exact H) | exact H
                have Ny103 := Aside0.mk hy103
                clear hy103
                obtain ⟨y104, hy104⟩ : ∃ y_ : List Int, y_ = (y103.set (x3_1 : Int).toNat (rd x0_1 x2_1)) := ⟨_, rfl⟩
                replace H : (slices_Reverse_byte_byte.l0 k1 y104 (wrap64 (x2_1 + 1)) (wrap64 (x3_1 - 1))) = some r := by first | (rw [hy104]; with_reducible exact H) | (have H2_ := (Option.bind_some _ _).symm.trans H; rw [hy104]; with_reducible exact H2_) | (have H2_ := (Option.bind_some _ _).symm.trans H; with_reducible exact H2_) | with_reducible exact H | (rw [hy104]; exact H) | exact H
                have Ny104 := Aside0.mk hy104
                clear hy104
                have H' := Aside0.mk H
                clear H
                try go_wp2
                have n0_ := Aside0.mk (Kd.R_drew HO_0.out)
                have n1_ := Aside0.mk (Kept.drew HK.out)
                have n2_ := Aside0.mk (below_drew1 HB.out)
                clear HO_0
                clear HK
                clear HB
                have HO_0 := n0_
                have HK := n1_
                have HB := n2_
                clear n0_ n1_ n2_
                have p101 : 0 ≤ (x3_1 : Int) := of_decide_eq_true (by first | (with_reducible assumption) | assumption)
                have q101 : x3_1 < (x0_1.length : Int) := of_decide_eq_true (by first | (with_reducible assumption) | assumption)
                obtain ⟨ad101, e101, hx101_0⟩ := Kd.at_int (Kd.R_reads' HO_0.out).2.2 x3_1 p101 q101
                cases e101
                replace p101 := eq_true p101
                replace q101 := eq_true q101
                have p102 : 0 ≤ (x2_1 : Int) := of_decide_eq_true (by first | (with_reducible assumption) | assumption)
                have q102 : x2_1 < (x0_1.length : Int) := of_decide_eq_true (by first | (with_reducible assumption) | assumption)
                obtain ⟨ad102, e102, hx102_0⟩ := Kd.at_int (Kd.R_reads' HO_0.out).2.2 x2_1 p102 q102
                obtain rfl : ad101 = ad102 := (by injection e102)
                replace p102 := eq_true p102
                replace q102 := eq_true q102
                have p8 : 0 ≤ (x2_1 : Int) := of_decide_eq_true (by first | (with_reducible assumption) | assumption)
                have q8 : (x2_1 : Int) < ((x0_1.length : Int) : Int) := of_decide_eq_true (by first | (with_reducible assumption) | assumption)
                obtain ⟨go8, co8, eo8, gb8, gl8, cl8, HG8⟩ := Kd.R_form HO_0.out (by omega)
                (first | cases eo8 | (injection eo8 with ea_ en_ ec_; (first | subst ea_ | (injection ea_ with ea_; subst ea_)); subst ec_; clear en_))
                have GB8 := Aside0.mk gb8
                have GG8 := Aside0.mk HG8
                clear gb8 gl8 HG8
                have HMgo8 := Aside0.mk (show (P0_ go8 ∨ w.heap.size ≤ go8) from (HO_0.out.1 _ rfl))
                (first | simp only [add_plain] at hx101_0 | skip)
                (first | simp only [add_plain] at hx102_0 | skip)
                obtain ⟨hx8_0, hf8_0⟩ := Kd.R_celln 0 HO_0.out (x2_1 : Int) p8 q8
                replace p8 := eq_true p8
                replace q8 := eq_true q8
                have HP11 := Kd.R_putn HO_0.out (x2_1 : Int) (rd x0_1 x3_1)
                rw [← Ny103.out] at HP11
                have HQ11 := Aside0.mk HP11
                clear HP11
                have p9 : 0 ≤ (x3_1 : Int) := of_decide_eq_true (by first | (with_reducible assumption) | assumption)
                have q9 : (x3_1 : Int) < ((x0_1.length : Int) : Int) := of_decide_eq_true (by first | (with_reducible assumption) | assumption)
                obtain ⟨hx9_0, hf9_0⟩ := Kd.R_celln 0 HQ11.out (x3_1 : Int) p9 q9
                replace p9 := eq_true p9
                replace q9 := eq_true q9
                have HP12 := Kd.R_putn HQ11.out (x3_1 : Int) (rd x0_1 x2_1)
                rw [← Ny104.out] at HP12
                have HQ12 := Aside0.mk HP12
                clear HP12
                refine start_ (n := 16) (S := fun w' => w'.cell? ⟨go8, (x3_1).toNat, none⟩ = some (.int .u8 (rd x0_1 x3_1)) ∧ w'.cell? ⟨go8, (x2_1).toNat, none⟩ = some (.int .u8 (rd x0_1 x2_1))) (ds := [13, 15]) #[false, false, false, false, false, false, false, false, false, false, false, false, false, false, false, false] (by kernel_rfl) rfl rfl ⟨hx101_0, hx102_0⟩ (fun hHeld => ?_); refine with_tabW slices_Reverse_byte_byte.tab3 slices_Reverse_byte_byte.bits3 (fun HT_ HW_ => ?_)
                generalize wr.drew = w10 at HO_0 HK HB GG8 HQ11 HQ12 hf8_0 hf9_0 hx101_0 hx102_0 hx8_0 hx9_0 hHeld ⊢
                refine pure_ (i := 0) (N := some 14) (v := ?_) (a' := ?_) #[true, false, false, false, false, false, false, false, false, false, false, false, false, false, false, false] rfl rfl (any_of HT_.out (by kernel_rfl)) (fun _ _ _ h => h) (Or.inl ⟨by rfl, ?_⟩) ?_ ?_
                rotate_left
                · intro w'
                  go_simp
                  with_reducible rfl
                rotate_left
                · simp only [Act.put, List.setIfInBounds_toArray, List.set_cons_zero, List.set_cons_succ, i64_w, i32_w]
                  rfl
                refine pure_ (i := 1) (N := some 15) (v := ?_) (a' := ?_) #[true, true, false, false, false, false, false, false, false, false, false, false, false, false, false, false] rfl rfl (any_of HT_.out (by kernel_rfl)) (fun _ _ _ h => h) (Or.inl ⟨by rfl, ?_⟩) ?_ ?_
                rotate_left
                · intro w'
                  go_simp
                  with_reducible rfl
                rotate_left
                · simp only [Act.put, List.setIfInBounds_toArray, List.set_cons_zero, List.set_cons_succ, i64_w, i32_w]
                  rfl
                refine pure_ (i := 2) (N := some 16) (v := ?_) (a' := ?_) #[true, true, true, false, false, false, false, false, false, false, false, false, false, false, false, false] rfl rfl (any_of HT_.out (by kernel_rfl)) (fun _ _ _ h => h) (Or.inl ⟨by rfl, ?_⟩) ?_ ?_
                rotate_left
                · intro w'
                  go_simp
                  with_reducible rfl
                rotate_left
                · simp only [Act.put, List.setIfInBounds_toArray, List.set_cons_zero, List.set_cons_succ, i64_w, i32_w]
                  rfl
                refine pure_ (i := 3) (N := some 17) (v := ?_) (a' := ?_) #[true, true, true, true, false, false, false, false, false, false, false, false, false, false, false, false] rfl rfl (any_of HT_.out (by kernel_rfl)) (fun _ _ _ h => h) (Or.inl ⟨by rfl, ?_⟩) ?_ ?_
                rotate_left
                · intro w'
                  go_simp
                  with_reducible rfl
                rotate_left
                · simp only [Act.put, List.setIfInBounds_toArray, List.set_cons_zero, List.set_cons_succ, i64_w, i32_w]
                  rfl
                refine pure_ (i := 4) (N := some 18) (v := ?_) (a' := ?_) #[true, true, true, true, true, false, false, false, false, false, false, false, false, false, false, false] rfl rfl (any_of HT_.out (by kernel_rfl)) (fun _ _ _ h => h) (Or.inl ⟨by rfl, ?_⟩) ?_ ?_
                rotate_left
                · intro w'
                  go_simp
                  with_reducible rfl
                rotate_left
                · simp only [Act.put, List.setIfInBounds_toArray, List.set_cons_zero, List.set_cons_succ, i64_w, i32_w]
                  rfl
                refine pure_ (i := 5) (N := some 19) (v := ?_) (a' := ?_) #[true, true, true, true, true, true, false, false, false, false, false, false, false, false, false, false] rfl rfl (any_of HT_.out (by kernel_rfl)) (fun _ _ _ h => h) (Or.inl ⟨by rfl, ?_⟩) ?_ ?_
                rotate_left
                · intro w'
                  go_simp
                  with_reducible rfl
                rotate_left
                · simp only [Act.put, List.setIfInBounds_toArray, List.set_cons_zero, List.set_cons_succ, i64_w, i32_w]
                  rfl
                refine pure_ (i := 6) (N := some 20) (v := ?_) (a' := ?_) #[true, true, true, true, true, true, true, false, false, false, false, false, false, false, false, false] rfl rfl (any_of HT_.out (by kernel_rfl)) (fun _ _ _ h => h) (Or.inl ⟨by rfl, ?_⟩) ?_ ?_
                rotate_left
                · intro w'
                  go_simp
                  with_reducible rfl
                rotate_left
                · simp only [Act.put, List.setIfInBounds_toArray, List.set_cons_zero, List.set_cons_succ, i64_w, i32_w]
                  rfl
                refine pure_ (i := 8) (N := some 22) (v := ?_) (a' := ?_) #[true, true, true, true, true, true, true, false, true, false, false, false, false, false, false, false] rfl rfl (any_of HT_.out (by kernel_rfl)) (fun _ _ _ h => h) (Or.inl ⟨by rfl, ?_⟩) ?_ ?_
                rotate_left
                · intro w'
                  go_simp
                  with_reducible rfl
                rotate_left
                · simp only [Act.put, List.setIfInBounds_toArray, List.set_cons_zero, List.set_cons_succ, i64_w, i32_w]
                  rfl
                refine pure_ (i := 9) (N := some 23) (v := ?_) (a' := ?_) #[true, true, true, true, true, true, true, false, true, true, false, false, false, false, false, false] rfl rfl (any_of HT_.out (by kernel_rfl)) (fun _ _ _ h => h) (Or.inl ⟨by rfl, ?_⟩) ?_ ?_
                rotate_left
                · intro w'
                  go_simp
                  with_reducible rfl
                rotate_left
                · simp only [Act.put, List.setIfInBounds_toArray, List.set_cons_zero, List.set_cons_succ, i64_w, i32_w]
                  rfl
                refine pure_ (i := 10) (N := some 24) (v := ?_) (a' := ?_) #[true, true, true, true, true, true, true, false, true, true, true, false, false, false, false, false] rfl rfl (any_of HT_.out (by kernel_rfl)) (fun _ _ _ h => h) (Or.inl ⟨by rfl, ?_⟩) ?_ ?_
                rotate_left
                · intro w'
                  go_simp
                  with_reducible rfl
                rotate_left
                · simp only [Act.put, List.setIfInBounds_toArray, List.set_cons_zero, List.set_cons_succ, i64_w, i32_w]
                  rfl
                refine take_ (i := 7) (N := some 21) (v := ?_) (a' := ?_) #[true, true, true, true, true, true, true, true, true, true, true, false, false, false, false, false] rfl rfl (take_ofW HT_.out HW_.out (by kernel_rfl)) (fun _ _ _ h => h) (Or.inl ⟨by rfl, ?_⟩) hHeld ?_ ?_
                rotate_left
                · rintro w' ⟨s0, s1⟩
                  go_simp
                  with_reducible rfl
                rotate_left
                · simp only [Act.put, List.setIfInBounds_toArray, List.set_cons_zero, List.set_cons_succ, i64_w, i32_w]
                  rfl
                refine take_ (i := 11) (N := some 25) (v := ?_) (a' := ?_) #[true, true, true, true, true, true, true, true, true, true, true, true, false, false, false, false] rfl rfl (take_ofW HT_.out HW_.out (by kernel_rfl)) (fun _ _ _ h => h) (Or.inl ⟨by rfl, ?_⟩) hHeld ?_ ?_
                rotate_left
                · rintro w' ⟨s0, s1⟩
                  go_simp
                  with_reducible rfl
                rotate_left
                · simp only [Act.put, List.setIfInBounds_toArray, List.set_cons_zero, List.set_cons_succ, i64_w, i32_w]
                  rfl
                refine pure_ (i := 12) (N := some 26) (v := ?_) (a' := ?_) #[true, true, true, true, true, true, true, true, true, true, true, true, true, false, false, false] rfl rfl (any_of HT_.out (by kernel_rfl)) (fun _ _ _ h => h) (Or.inl ⟨by rfl, ?_⟩) ?_ ?_
                rotate_left
                · intro w'
                  go_simp
                  with_reducible rfl
                rotate_left
                · simp only [Act.put, List.setIfInBounds_toArray, List.set_cons_zero, List.set_cons_succ, i64_w, i32_w]
                  rfl
                refine last_ (i := 13) (N := none) #[true, true, true, true, true, true, true, true, true, true, true, true, true, true, false, false] rfl rfl (one_of HT_.out (by kernel_rfl)) (by decide) (fun K hK => ?_)
                refine skip_ (w1 := ?_) (by rfl) rfl ?_ ?_
                rotate_left
                · go_simp
                  rfl
                refine hK.out _ _ ?_
                clear hK K
                refine pure_ (i := 14) (N := some 27) (v := ?_) (a' := ?_) #[true, true, true, true, true, true, true, true, true, true, true, true, true, true, true, false] rfl rfl (any_of HT_.out (by kernel_rfl)) (fun _ _ _ h => h) (Or.inl ⟨by rfl, ?_⟩) ?_ ?_
                rotate_left
                · intro w'
                  go_simp
                  with_reducible rfl
                rotate_left
                · simp only [Act.put, List.setIfInBounds_toArray, List.set_cons_zero, List.set_cons_succ, i64_w, i32_w]
                  rfl
                refine last_ (i := 15) (N := none) #[true, true, true, true, true, true, true, true, true, true, true, true, true, true, true, true] rfl rfl (one_of HT_.out (by kernel_rfl)) (by decide) (fun K hK => ?_)
                refine skip_ (w1 := ?_) (by rfl) rfl ?_ ?_
                rotate_left
                · go_simp
                  rfl
                refine hK.out _ _ ?_
                clear hK K
                refine done_ (done_of HT_.out (by kernel_rfl)) ?_
                try go_wp2
                (try simp only [← hl0_1])
                go_roundg k1
                case measure => have := HK1.out; omega
                case rel => exact ⟨(y104), (wrap64 (x2_1 + 1)), (wrap64 (x3_1 - 1)), (by first | rfl | (simp; done) | (simp [*]; done)), (by first | rfl | (simp; done) | (simp [*]; done)), H', ⟨by have := HK1.out; omega⟩, ⟨by (try simp only [hl0_1]); (with_reducible repeat (first | apply Kd.R_alloc | apply Kd.R_drewN | apply Kd.R_drew)); exact HQ12.out⟩, ⟨by repeat (first | (with_reducible first | exact HK.out | apply Kept.alloc | apply Kept.drewN | apply Kept.drew | refine Kept.setCell ?_ HMgo8.out _ | refine Kept.setCell ?_ HMgo8.out _) | exact HK.out)⟩, ⟨by repeat (first | (with_reducible first | exact HB.out | apply below_alloc | apply pw_below_drewN | apply below_drew1 | refine below_set ?_ GB8.out | refine below_set ?_ GB8.out) | exact HB.out)⟩⟩
              · rw [if_neg c7] at H
                exact absurd H (by simp)
            · rw [if_neg c6] at H
              exact absurd H (by simp)
          · rw [if_neg c5] at H
            exact absurd H (by simp)
        · rw [if_neg c4] at H
          exact absurd H (by simp)
      · rw [if_neg c3] at H
        have c3b0 : decide (x2_1 < x3_1) = false := decide_eq_false c3
        clear c3
        obtain rfl := Option.some.inj H
        go_wp2
        first | go_end0 | ((try simp only [Exit.inBlock, Exit.then]); refine bodyPost_ret (results_none rfl _ _ _) rfl ?_)
        exact ⟨by first | rfl | (simp [errW_none, errW_some] <;> rfl) | (simp [*, errW_none, errW_some] <;> rfl), (by first | exact (by (with_reducible repeat (first | apply Kd.R_alloc | apply Kd.R_drewN | apply Kd.R_drew)); exact HO_0.out) | (simp only [hl0_1]; exact (by (with_reducible repeat (first | apply Kd.R_alloc | apply Kd.R_drewN | apply Kd.R_drew)); exact HO_0.out))), by repeat (first | (with_reducible first | exact HB.out | apply below_alloc | apply pw_below_drewN | apply below_drew1) | exact HB.out), by repeat (first | (with_reducible first | exact HK.out | apply Kept.alloc | apply Kept.drewN | apply Kept.drew) | exact HK.out)⟩

end Go.Proofs.Ytpdcjkiejglaiaa.Q

/-
  Turning a row round in place: what the loop of 'slices.Reverse' comes to is the row from its end.
-/
namespace Go.Proofs.Ytpdcjkiejglaiaa.Q
open Go.RowKit Go.Proofs.YtpdcjkiejglaiaaW.PrintWords Go.Proofs.YtpdcjkiejglaiaaW.PrintLast Go.Proofs.YtpdcjkiejglaiaaW.PrintMore
set_option linter.unusedVariables false
set_option linter.unusedSimpArgs false

theorem rd_get (xs : List Int) (i : Nat) (h : i < xs.length) : xs[i]? = some (rd xs (i : Int)) := by
  unfold rd
  simp [List.getD_eq_getElem?_getD, h]
theorem reverse_of {l xs : List Int} {i j : Nat} (hlen : xs.length = l.length) (hij : i + j + 1 = l.length) (hle : j ≤ i)
    (hlo : ∀ t, t < i → xs[t]? = l[l.length - 1 - t]?) (hhi : ∀ t, j < t → t < l.length → xs[t]? = l[l.length - 1 - t]?) (hmid : ∀ t, i ≤ t → t ≤ j → xs[t]? = l[t]?) : xs = l.reverse := by
  apply List.ext_getElem?
  intro t
  by_cases ht : t < l.length
  · rw [List.getElem?_reverse ht]
    by_cases h1 : t < i
    · exact hlo t h1
    · by_cases h2 : j < t
      · exact hhi t h2 ht
      · rw [hmid t (by omega) (by omega)]
        congr 1
        omega
  · rw [List.getElem?_eq_none (by omega), List.getElem?_eq_none (by rw [List.length_reverse]; omega)]
theorem reverse_loop (l : List Int) (hl : l.length ≤ 281474976710656) : ∀ (d : Nat) (xs : List Int) (i j : Nat), j ≤ i + d → xs.length = l.length → i + j + 1 = l.length →
    (∀ t, t < i → xs[t]? = l[l.length - 1 - t]?) → (∀ t, j < t → t < l.length → xs[t]? = l[l.length - 1 - t]?) → (∀ t, i ≤ t → t ≤ j → xs[t]? = l[t]?) →
    Ev (fun k => slices_Reverse_byte_byte.l0 k xs (i : Int) (j : Int)) l.reverse := by
  intro d
  induction d using Nat.strongRecOn with
  | _ d ih =>
    intro xs i j hd hlen hij hlo hhi hmid
    by_cases hlt : i < j
    · have hi : i < xs.length := by omega
      have hj : j < xs.length := by omega
      have gi := rd_get xs i hi
      have gj := rd_get xs j hj
      have step : ∀ k, slices_Reverse_byte_byte.l0 (k + 1) xs (i : Int) (j : Int) = slices_Reverse_byte_byte.l0 k ((xs.set i (rd xs (j : Int))).set j (rd xs (i : Int))) ((i + 1 : Nat) : Int) ((j - 1 : Nat) : Int) := by
        intro k
        have e1 : wrap64 ((i : Int) + 1) = ((i + 1 : Nat) : Int) := by rw [wrap_id (by omega) (by omega)]; rfl
        have e2 : wrap64 ((j : Int) - 1) = ((j - 1 : Nat) : Int) := by rw [wrap_id (by omega) (by omega)]; omega
        simp only [slices_Reverse_byte_byte.l0, e1, e2]
        rw [if_pos (by omega), if_pos (by omega), if_pos (by omega), if_pos (by omega), if_pos (by omega)]
        rfl
      refine Ev.step step (ih (d - 1) (by omega) _ (i + 1) (j - 1) (by omega) (by simp [hlen]) (by omega) ?_ ?_ ?_)
      · intro t ht
        by_cases e : t = i
        · subst e
          rw [List.getElem?_set_ne (by omega), List.getElem?_set_self hi, ← gj, hmid j (by omega) (by omega)]
          congr 1
          omega
        · rw [List.getElem?_set_ne (by omega), List.getElem?_set_ne (by omega)]
          exact hlo t (by omega)
      · intro t h1 h2
        by_cases e : t = j
        · subst e
          rw [List.getElem?_set_self (by simpa using hj), ← gi, hmid i (by omega) (by omega)]
          congr 1
          omega
        · rw [List.getElem?_set_ne (by omega), List.getElem?_set_ne (by omega)]
          exact hhi t (by omega) h2
      · intro t h1 h2
        rw [List.getElem?_set_ne (by omega), List.getElem?_set_ne (by omega)]
        exact hmid t (by omega) (by omega)
    · refine Ev.step (f := fun _ => some xs) (fun k => ?_) (Ev.eq (Ev.now _) (reverse_of hlen hij (by omega) hlo hhi hmid))
      simp only [slices_Reverse_byte_byte.l0]
      rw [if_neg (by omega)]
theorem Reverse_ev (l : List Int) (hl : l.length ≤ 281474976710656) : Ev (fun k => slices_Reverse_byte_byte.f k l) l.reverse := by
  unfold slices_Reverse_byte_byte.f
  by_cases h0 : l.length = 0
  · obtain rfl : l = [] := List.eq_nil_of_length_eq_zero h0
    refine Ev.step (f := fun _ => some []) (fun k => ?_) (Ev.now _)
    simp only [slices_Reverse_byte_byte.l0]
    rw [if_neg (by rw [wrap_id (by simp) (by simp)]; simp)]
  · have e : wrap64 ((l.length : Int) - 1) = ((l.length - 1 : Nat) : Int) := by rw [wrap_id (by omega) (by omega)]; omega
    rw [e]
    exact reverse_loop l hl l.length l 0 (l.length - 1) (by omega) rfl (by omega) (fun t ht => by omega) (fun t h1 h2 => by omega) (fun t _ _ => rfl)

end Go.Proofs.Ytpdcjkiejglaiaa.Q

/-
  'multiple'.
-/
namespace Go.Proofs.Ytpdcjkiejglaiaa.Q
open Go.RowKit Go.Proofs.YtpdcjkiejglaiaaW.PrintWords Go.Proofs.YtpdcjkiejglaiaaW.PrintLast Go.Proofs.YtpdcjkiejglaiaaW.PrintMore
set_option linter.unusedVariables false
set_option linter.unusedSimpArgs false

theorem R_marks (W : World) (base g m : Nat) (h : W.heap[g]? = some (.cells (madeCells #[.bool false] m) 4 (0, 0))) (hb : base ≤ g) (hm : m ≤ 400) :
    Kd.R Kd.bool 4 W base (fun _ => True) (.slice (some ⟨g, 0, none⟩) m m) (List.replicate m false) := by
  have hr := Kd.reps_made (R := Kd.bool.M W base (fun k => True ∧ some k ≠ (Value.slice (some ⟨g, 0, none⟩) m m).ownBlock)) (z := .bool false) (size := 1) (z0 := false) rfl (by decide) rfl m
  rw [Nat.mul_one] at hr
  have h1 : Kd.bool.sz = 1 := rfl
  refine ⟨fun _ _ => trivial, (madeCells #[.bool false] m).toList, ⟨by simp [size_madeCells, h1], .inr ⟨g, m, madeCells #[.bool false] m, by simp, hb, h, by simp, by simp [maxLen]; omega, by simp [size_madeCells, h1], ?_⟩⟩, hr⟩
  rw [List.take_of_length_le (by simp [size_madeCells, h1])]
theorem R_bare (W : World) (base g : Nat) (h : W.heap[g]? = some (.cells #[] 56 (0, 0))) (hb : base ≤ g) :
    Kd.R k56 56 W base (fun _ => True) (.slice (some ⟨g, 0, none⟩) 0 0) [] :=
  ⟨fun _ _ => trivial, [], ⟨by simp, .inr ⟨g, 0, #[], by simp, hb, h, by simp, by simp [maxLen], by simp, by simp⟩⟩, Reps.none _ _⟩

theorem R_bareB (W : World) (base g : Nat) (h : W.heap[g]? = some (.cells #[] 5 (0, 0))) (hb : base ≤ g) :
    Kd.R (Kd.int .u8) 5 W base (fun _ => True) (.slice (some ⟨g, 0, none⟩) 0 0) [] :=
  ⟨fun _ _ => trivial, [], ⟨by simp, .inr ⟨g, 0, #[], by simp, hb, h, by simp, by simp [maxLen], by simp, by simp⟩⟩, Reps.none _ _⟩
theorem chain_stop (l : List S56) (f : Nat) (k : Int) (h : ¬ 0 ≤ k) : chain l f k = [] := by
  cases f with
  | zero => rfl
  | succ f => simp only [chain]; rw [if_neg h]
theorem chain_go (l : List S56) (f : Nat) (k : Int) (h : 0 ≤ k) : chain l (f + 1) k = (rd_T56 l k).f2 :: chain l f (rd_T56 l k).f1 := by
  simp only [chain]
  rw [if_pos h]
theorem hp_new (w : World) (o : Obj) (k : Nat) (h : k = w.heap.size) : (w.alloc o).heap[k]? = some o := by rw [h]; exact heap_alloc_new w o
theorem hp_old (w : World) (o : Obj) (k : Nat) (h : k < w.heap.size) : (w.alloc o).heap[k]? = w.heap[k]? := (below_alloc (Below.refl w.heap.size w) o).block k h
theorem hp_size (w : World) (o : Obj) : (w.alloc o).heap.size = w.heap.size + 1 := by simp
theorem hp_drew (w : World) : w.drew.heap = w.heap := rfl

/-- the variables as they are laid -/
def MulInit (w W : World) (bm bl m : Nat) : Prop := ∃ vm vl, MulW w W w.heap.size bm bl m vm vl vl (List.replicate m false) [] []
theorem mul_init {w W : World} {bm bl gm gl m : Nat} (h2 : W.heap[bm]? = some (.cells #[.slice (some ⟨gm, 0, none⟩) m m] 52 (0, 0))) (h3 : W.heap[bl]? = some (.cells #[.slice (some ⟨gl, 0, none⟩) 0 0] 54 (0, 0)))
    (h1 : W.heap[w.heap.size]? = some (.cells #[.int .i64 m] 3 (0, 0))) (h4 : W.heap[gm]? = some (.cells (madeCells #[.bool false] m) 4 (0, 0))) (h5 : W.heap[gl]? = some (.cells #[] 56 (0, 0)))
    (hb : Below w.heap.size w W) (hm : m ≤ 400) (b1 : w.heap.size ≤ bm) (b2 : w.heap.size ≤ bl) (b3 : w.heap.size ≤ gm) (b4 : w.heap.size ≤ gl) : MulInit w W bm bl m :=
  ⟨_, _, hb, h1, h2, h3, Nat.le_refl _, b1, b2, R_marks _ _ _ _ h4 b3 hm, R_bare _ _ _ h5 b4, fun p hp => by simp at hp⟩

/-- the bytes of a text, laid as a row -/
def byteBlock (W : World) (s : ByteArray) : List (Nat × Array Value × Nat × Nat) := [(W.heap.size, Lib.bytesCells W 5 s, (Lib.bytesCells W 5 s).size, (Lib.bytesCells W 5 s).size + 1)]
theorem MulW.bytes {w0 w : World} {bn bm bl : Nat} {n : Int} {vm vb vl : Value} {met : List Bool} {list : List S56} {F : List (Nat × Array Value × Nat × Nat)} (H : MulW w0 w bn bm bl n vm vb vl met list F) (s : ByteArray) :
    MulW w0 (Lib.bytesWorld w 5 s) bn bm bl n vm vb vl met list (byteBlock w s) := by
  have hb : Below w.heap.size w (Lib.bytesWorld w 5 s) := ⟨rfl, rfl, rfl, by rw [Lib.bytesWorld_size]; omega, fun k hk => Lib.bytesWorld_at_old w 5 s k hk⟩
  have al : ∀ {k : Nat} {x : Obj}, w.heap[k]? = some x → (Lib.bytesWorld w 5 s).heap[k]? = some x := fun hk => (hb.block _ (lt_of_block hk)).trans hk
  refine ⟨below_step H.below hb, al H.cn, al H.cm, al H.cl, H.gn, H.gm, H.gl, Kd.R_below H.met hb, Kd.R_below H.list hb, fun p hp => ?_⟩
  obtain rfl : p = (w.heap.size, Lib.bytesCells w 5 s, (Lib.bytesCells w 5 s).size, (Lib.bytesCells w 5 s).size + 1) := by simpa [byteBlock] using hp
  exact Lib.bytesWorld_at_new w 5 s
/-- a byte out of that row -/
theorem byte_cell {W0 W : World} (s : ByteArray) (h : ∀ p ∈ byteBlock W0 s, W.heap[p.1]? = some (.cells p.2.1 5 p.2.2)) (j : Nat) (hj : j < s.size) : W.cell? ⟨W0.heap.size, j, none⟩ = some (.int .u8 (bt s j)) := by
  have h1 := h _ (List.mem_singleton.2 rfl)
  have h2 : W.cell? ⟨W0.heap.size, j, none⟩ = (Lib.bytesWorld W0 5 s).cell? ⟨W0.heap.size, j, none⟩ := by
    unfold World.cell?
    simp only [h1, Lib.bytesWorld_at_new]
  rw [h2, Lib.bytesWorld_cell _ _ _ _ hj]
  have h3 : j < s.data.toList.length := by rw [Array.length_toList]; exact hj
  have h4 : (((s.data.toList.getD j 0).toNat : Nat) : Int) = bt s j := by
    rw [bt_li]
    unfold li
    rw [List.getD_eq_getElem?_getD, List.getD_eq_getElem?_getD, List.getElem?_map, Int.toNat_natCast, List.getElem?_eq_getElem h3]
    rfl
  rw [h4]
/-- another row of the call's own (of bytes) grows -/
theorem MulW.other {w0 w w1 : World} {bn bm bl : Nat} {n : Int} {vm vb vl v : Value} {met : List Bool} {list : List S56} (H : MulW w0 w bn bm bl n vm vb vl met list []) {out : List Int} {base : Nat} {ok : Nat → Prop} (ho : Kd.R (Kd.int .u8) 5 w base ok v out)
    (hb : Below w0.heap.size w0 w1) (hg : w.grownBy w1 v.ownBlock) : MulW w0 w1 bn bm bl n vm vb vl met list [] := by
  have ne : ∀ {k t : Nat} {cs : Array Value} {fz : Nat × Nat}, w.heap[k]? = some (.cells cs t fz) → t ≠ 5 → w1.heap[k]? = some (.cells cs t fz) := by
    intro k t cs fz hk ht
    rw [hg.block k (lt_of_block hk) (fun e => ?_)]
    · exact hk
    · obtain ⟨cells, hc⟩ := Kd.R_typed ho k e.symm
      rw [hc] at hk
      injection hk with hk
      injection hk with _ hk
      exact ht hk.symm
  exact ⟨hb, ne H.cn (by decide), ne H.cm (by decide), ne H.cl (by decide), H.gn, H.gm, H.gl, Kd.R_over' H.met (Kd.R_typed ho) (by decide) hg, Kd.R_over' H.list (Kd.R_typed ho) (by decide) hg, fun p hp => by simp at hp⟩
theorem MulW.bare {w0 w : World} {bn bm bl : Nat} {n : Int} {vm vb vl : Value} {met : List Bool} {list : List S56} {F : List (Nat × Array Value × Nat × Nat)} (H : MulW w0 w bn bm bl n vm vb vl met list F) : MulW w0 w bn bm bl n vm vb vl met list [] :=
  ⟨H.below, H.cn, H.cm, H.cl, H.gn, H.gm, H.gl, H.met, H.list, fun p hp => by simp at hp⟩
theorem MulW.later {w0 w w1 : World} {bn bm bl : Nat} {n : Int} {vm vb vl : Value} {met : List Bool} {list : List S56} (H : MulW w0 w bn bm bl n vm vb vl met list []) (hb : Below w.heap.size w w1) : MulW w0 w1 bn bm bl n vm vb vl met list [] := by
  have al : ∀ {k : Nat} {x : Obj}, w.heap[k]? = some x → w1.heap[k]? = some x := fun hk => (hb.block _ (lt_of_block hk)).trans hk
  exact ⟨below_step H.below hb, al H.cn, al H.cm, al H.cl, H.gn, H.gm, H.gl, Kd.R_below H.met hb, Kd.R_below H.list hb, fun p hp => by simp at hp⟩
theorem li_drop (s : ByteArray) (j : Nat) (hj : j < s.size) : (li s).drop j = bt s j :: (li s).drop (j + 1) := by
  have h : j < (li s).length := by rw [li_length]; exact hj
  rw [List.drop_eq_getElem_cons h, bt_li]
  simp [List.getD_eq_getElem?_getD, h]

set_option maxHeartbeats 8000000 in
set_option maxRecDepth 100000 in
theorem multiple_any (m : Nat) (s : ByteArray) (w : World) (h1 : 1 ≤ m) (h2 : m ≤ 400) (hs : s.size ≤ 1000) (hd : ∀ d ∈ li s, 48 ≤ d ∧ d ≤ 57) (r1 : ByteArray) (r2 : Bool)
    (hr : mscan m (li s) 401 0 (mfirst m (li s) ⟨List.replicate m false, []⟩) = (r1, r2)) :
    Calls Try.prog 32 #[.int .i64 m, .string s] w fun e w' => e = .returned (.tuple #[.string r1, .bool r2]) ∧ Below w.heap.size w w' := by
  have hmk := @run_make_row' Try.prog 52 4 (.bool false) 1 Try.underlying52 info4 rfl .i64 .i64 m (by omega) (by omega)
  have hmf : ∀ (fn : Fn) (first cap : Array Value) (w : World), (Instr.makeFunc fn first cap).run Try.prog w = .ok (.func fn first cap) w := fun _ _ _ _ => rfl
  have HD := Aside0.mk hd
  have HR := Aside0.mk hr
  clear hd hr
  go_enter Try.func32, Try.ntmps32
  go_wp2
  go_cut [6, 7] (fun v6 v7 w' => ∃ bm bl : Nat, v6 = .pointer (some ⟨bl, 0, none⟩) ∧ v7 = .pointer (some ⟨bm, 0, none⟩) ∧ Aside0 (MulInit w w' bm bl m))
  case first =>
    go_region
    all_goals
      go_wp2
      go_meet
      case rel =>
        refine ⟨_, _, rfl, rfl, ⟨?_⟩⟩
        apply mul_init
        case hm => exact h2
        case h2 => rw [hp_drew]; repeat (first | exact hp_new _ _ _ (by simp only [hp_size]) | rw [hp_old _ _ _ (by simp only [hp_size]; omega)])
        case h3 => rw [hp_drew]; repeat (first | exact hp_new _ _ _ (by simp only [hp_size]) | rw [hp_old _ _ _ (by simp only [hp_size]; omega)])
        case h1 => rw [hp_drew]; repeat (first | exact hp_new _ _ _ (by simp only [hp_size]) | exact hp_new _ _ _ rfl | rw [hp_old _ _ _ (by simp only [hp_size]; omega)])
        case h4 => rw [hp_drew]; repeat (first | exact hp_new _ _ _ (by simp only [hp_size]) | rw [hp_old _ _ _ (by simp only [hp_size]; omega)])
        case h5 => rw [hp_drew]; repeat (first | exact hp_new _ _ _ (by simp only [hp_size]) | rw [hp_old _ _ _ (by simp only [hp_size]; omega)])
        case hb => exact below_drew (below_alloc (below_alloc (below_alloc (below_alloc (below_alloc (Below.refl _ _) _) _) _) _) _)
        case b1 => omega
        case b2 => omega
        case b3 => omega
        case b4 => omega
  case rest =>
    clear hmk
    obtain ⟨bm, bl, rfl, rfl, HI⟩ := hcut
    obtain ⟨vm, vl, HM⟩ := HI.out
    clear HI
    have HM := Aside0.mk HM
    have hcv := fun (W : World) => Lib.run_convert_string_bytes (P := Try.prog) W 9 39 5 s Try.underlying9 Try.underlying39 Try.underlying5
    have HM1 := Aside0.mk (HM.out.bytes s)
    have hdig : ∀ j : Nat, j < s.size → 48 ≤ bt s j ∧ bt s j ≤ 57 := by
      intro j hj
      have h : j < (li s).length := by rw [li_length]; exact hj
      have := HD.out ((li s)[j]) (List.getElem_mem h)
      rw [bt_li]
      simpa [List.getD_eq_getElem?_getD, h] using this
    have HG := Aside0.mk hdig
    clear hdig
    have HB1 := byte_cell (W0 := wc) (W := Lib.bytesWorld wc 5 s) s HM1.out.ext
    clear HB1
    go_wp2
    go_loopg [23] (s.size) (fun g v23 wr => ∃ (j : Nat) (st : MSt) (vl' : Value), v23 = .int .i64 j ∧ Aside0 (j + g = s.size) ∧ Aside0 (MInv m st) ∧ Aside0 (mfirst m ((li s).drop j) st = mfirst m (li s) ⟨List.replicate m false, []⟩) ∧ Aside0 (MulW w wr w.heap.size bm bl m vm vl' vl' st.met st.list (byteBlock wc s)))
    case atStart => exact ⟨0, ⟨List.replicate m false, []⟩, vl, rfl, ⟨by omega⟩, ⟨MInv.init m⟩, ⟨rfl⟩, HM1⟩
    case round =>
      obtain ⟨j, st, vl', rfl, hg, hI, hf, hM⟩ := hrel
      clear HM HM1
      clear hcv
      have hl := hI.out.le
      by_cases hj : j < s.size
      · have hcell := byte_cell s hM.out.ext j hj
        have hdd := HG.out j hj
        have hdr := li_drop s j hj
        rw [hdr] at hf
        have hf' : mfirst m ((li s).drop (j + 1)) (if bt s j = 48 then st else mpush m (-1) 0 (bt s j) st) = mfirst m (li s) ⟨List.replicate m false, []⟩ := hf.out
        clear hdr hf
        by_cases h48 : bt s j = 48
        · rw [if_pos h48] at hf'
          have hf := Aside0.mk hf'
          have hb : (bt s (j : Int) != 48) = false := by simp [h48]
          clear hf' h48
          go_wp2
          go_roundg (gk - 1)
          case measure => have := hg.out; omega
          case rel => exact ⟨j + 1, st, vl', by go_num, ⟨by have := hg.out; omega⟩, hI, hf, hM⟩
        · rw [if_neg h48] at hf'
          have hb : (bt s (j : Int) != 48) = true := by simpa using h48
          have hI' : Aside0 (MInv m (mpush m (-1) 0 (bt s j) st)) := ⟨hI.out.push (by omega) _ _ _ (by omega) (by omega) hdd.1 hdd.2⟩
          have hlen : (st.met.length : Int) = m := by rw [hI.out.len]
          clear h48
          have HF := Aside0.mk hf'
          clear hf'
          cases hit : rdOf false st.met (nextRest m 0 (bt s j)) with
          | true =>
            have e : mpush m (-1) 0 (bt s j) st = st := by unfold mpush; rw [if_pos hit]
            rw [e] at HF
            have HH := Aside0.mk hit
            have HL := Aside0.mk hlen
            clear hit hlen e
            go_wp2_with (go_at_call 57; refine (push_hit hM.out (-1) 0 (bt s j) (by omega) (by omega) (by omega) (by omega) hdd.1 hdd.2 HL.out HH.out).mono ?_; rintro e w' ⟨rfl, H2⟩)
            go_wp2
            go_roundg (gk - 1)
            case measure => have := hg.out; omega
            case rel => exact ⟨j + 1, st, vl', by go_num, ⟨by have := hg.out; omega⟩, hI, HF, ⟨H2⟩⟩
          | false =>
            have e : mpush m (-1) 0 (bt s j) st = ⟨st.met.set (nextRest m 0 (bt s j)).toNat true, st.list ++ [⟨nextRest m 0 (bt s j), -1, bt s j⟩]⟩ := by unfold mpush; rw [if_neg (by rw [hit]; decide)]
            rw [e] at HF hI'
            have HH := Aside0.mk hit
            have HL := Aside0.mk hlen
            clear hit hlen e
            go_wp2_with (go_at_call 57; refine (push_new hM.out (-1) 0 (bt s j) (by omega) (by omega) (by omega) (by omega) hdd.1 hdd.2 HL.out HH.out (by omega)).mono ?_; rintro e w' ⟨rfl, vl2, H2⟩)
            go_wp2
            go_roundg (gk - 1)
            case measure => have := hg.out; omega
            case rel => exact ⟨j + 1, _, vl2, by go_num, ⟨by have := hg.out; omega⟩, hI', HF, ⟨H2⟩⟩
      · obtain rfl : j = s.size := by have := hg.out; omega
        have hf' : st = mfirst m (li s) ⟨List.replicate m false, []⟩ := by
          have := hf.out
          rw [List.drop_of_length_le (by rw [li_length]; omega)] at this
          exact this
        have HR2 : Aside0 (mscan m (li s) 401 0 st = (r1, r2)) := ⟨by rw [hf']; exact HR.out⟩
        clear HR hf hf' hg
        obtain ⟨wl, hwl⟩ : ∃ x, x = wr := ⟨_, rfl⟩
        rw [← hwl] at hM
        have HM2 : Aside0 (MulW w wl w.heap.size bm bl m vm vl' vl' st.met st.list []) := ⟨⟨hM.out.below, hM.out.cn, hM.out.cm, hM.out.cl, hM.out.gn, hM.out.gm, hM.out.gl, hM.out.met, hM.out.list, fun p hp => by simp at hp⟩⟩
        clear hM
        subst hwl
        go_wp2
        go_loopg [11] (401) (fun g v11 wr => ∃ (i : Nat) (st : MSt) (vl' : Value), v11 = .int .i64 i ∧ Aside0 (i + g = 401) ∧ Aside0 (MInv m st) ∧ Aside0 (mscan m (li s) g i st = (r1, r2)) ∧ Aside0 (MulW w wr w.heap.size bm bl m vm vl' vl' st.met st.list []))
        case atStart => exact ⟨0, st, vl', rfl, ⟨by omega⟩, hI, HR2, HM2⟩
        case round =>
          clear HM2 HR2 hI hl hj
          obtain ⟨i, st, vl', rfl, hg, hI, hR, hM⟩ := hrel
          obtain ⟨go, rfl⟩ : ∃ x, x = gk := ⟨_, rfl⟩
          obtain ⟨wo, rfl⟩ : ∃ x, x = wr := ⟨_, rfl⟩
          have hle := hI.out.le
          have cl := cell_of_one hM.out.cl
          obtain ⟨A, c, hv⟩ := Kd.R_slice hM.out.list
          subst hv
          by_cases hi : i < st.list.length
          · obtain ⟨f, rfl⟩ : ∃ f, go = f + 1 := ⟨go - 1, by have := hg.out; omega⟩
            have hR' := hR.out
            simp only [mscan] at hR'
            clear hR
            rw [if_pos hi] at hR'
            obtain ⟨ad, ha, hx0, hx1, hx2⟩ := at_T56 (Kd.R_reads' hM.out.list).2.2 (i : Int) (by omega) (by omega)
            subst ha
            simp only [Int.toNat_natCast] at hx0 hx1 hx2
            by_cases h0 : (rd_T56 st.list (i : Int)).f0 = 0
            · rw [if_pos h0] at hR'
              have HR3 := Aside0.mk hR'
              have hb0 : ((rd_T56 st.list (i : Int)).f0 == 0) = true := by simp [h0]
              clear hR' h0
              have HB0 : Aside0 (Below w.heap.size w (wo.alloc (.cells #[] 5))) := ⟨below_alloc hM.out.below _⟩
              have HO0 : Aside0 (Kd.R (Kd.int .u8) 5 (wo.alloc (.cells #[] 5)) w.heap.size (fun _ => True) (.slice (some ⟨wo.heap.size, 0, none⟩) 0 0) []) := ⟨R_bareB _ _ _ (heap_alloc_new _ _) (below_size hM.out.below)⟩
              have HM0 := Aside0.mk (hM.out.alloc (.cells #[] 5))
              go_wp2_with (fail)
              clear cl hx0 hx1 hx2 hb0
              go_loopg [12, 13] (401) (fun g v12 v13 w' => ∃ (acc : List Int) (k : Int), v13 = .int .i64 k ∧ Aside0 (acc ++ chain st.list g k = chain st.list 401 (i : Int)) ∧ Aside0 (-1 ≤ k ∧ k < g ∧ k < st.list.length) ∧ Aside0 (acc.length + g ≤ 401) ∧ Aside0 (Kd.R (Kd.int .u8) 5 w' w.heap.size (fun _ => True) v12 acc) ∧ Aside0 (MulW w w' w.heap.size bm bl m vm (.slice (some ad) st.list.length c) (.slice (some ad) st.list.length c) st.met st.list []))
              case atStart => exact ⟨[], i, rfl, ⟨rfl⟩, ⟨by omega, by omega, by omega⟩, ⟨by simp⟩, HO0, HM0⟩
              case round =>
                clear HB0 HO0 HM0 hM
                obtain ⟨acc, k, rfl, hc, hk, ha, HO, hM⟩ := hrel
                have hkk := hk.out
                have cl := cell_of_one hM.out.cl
                by_cases hk0 : 0 ≤ k
                · obtain ⟨q, rfl⟩ := Int.eq_ofNat_of_zero_le hk0
                  obtain ⟨g, rfl⟩ : ∃ g, gk = g + 1 := ⟨gk - 1, by omega⟩
                  obtain ⟨ad', ha', hx0, hx1, hx2⟩ := at_T56 (Kd.R_reads' hM.out.list).2.2 (q : Int) (by omega) (by omega)
                  cases ha'
                  simp only [Int.toNat_natCast] at hx0 hx1 hx2
                  have hb := hI.out.before q (by omega)
                  have hc' : acc ++ ((rd_T56 st.list (q : Int)).f2 :: chain st.list g (rd_T56 st.list (q : Int)).f1) = chain st.list 401 (i : Int) := by rw [← chain_go _ _ _ hk0]; exact hc.out
                  have HC := Aside0.mk hc'
                  have HBB := Aside0.mk hb
                  clear hc' hc hb
                  have hdg := hI.out.dig q (by omega)
                  have HG2 := Aside0.mk hkk
                  have hql : q < st.list.length := by omega
                  clear hkk
                  go_wp2_with (first | ((with_reducible refine gate_builtin (b := .append) (xs := #[.tmp 54, .tmp 60]) rfl ?_); at_builtin; refine Kd.R_append (Kd.int .u8) (w0 := w) w.heap.size rfl (.tmp 54) (.tmp 60) 39 5 (.int .u8 0) 1 rfl Try.underlying39 info5 rfl (by decide) (by omega) u12 acc (rd_T56 st.list (q : Int)).f2 [.int .u8 (rd_T56 st.list (q : Int)).f2] (fun _ => True) (fun _ => False) rfl rfl ?aP (fun _ hk => hk.elim) ?aF ?aO ?aB ?aS ?aL ?_; (case aP => exact rfl); (case aB => exact hM.out.below); (case aF => exact fun _ _ => trivial); (case aO => exact HO.out); (case aS => exact below_size hM.out.below); (case aL => have := ha.out; omega); intro v1 w15 ho hb hg hat; have HO2 := Aside0.mk ho; have HM2 := Aside0.mk (hM.out.other HO.out hb hg); have cl2 := cell_of_one HM2.out.cl; clear ho hb hg hat HO hM cl hx0 hx1 hx2; obtain ⟨ad', ha', hx0, hx1, hx2⟩ := at_T56 (Kd.R_reads' HM2.out.list).2.2 (q : Int) (by omega) (by omega); cases ha'; simp only [Int.toNat_natCast] at hx0 hx1 hx2))
                  go_roundg g
                  case measure => omega
                  case rel =>
                    refine ⟨acc ++ [(rd_T56 st.list (q : Int)).f2], (rd_T56 st.list (q : Int)).f1, rfl, ⟨?_⟩, ⟨?_, ?_, ?_⟩, ⟨?_⟩, HO2, HM2⟩
                    · rw [List.append_assoc]; exact HC.out
                    · exact HBB.out.1
                    · have := HBB.out.2; have := HG2.out; omega
                    · have := HBB.out.2; have := HG2.out; omega
                    · have := ha.out; simp; omega
                · have hcc : acc = chain st.list 401 (i : Int) := by have := hc.out; rw [chain_stop _ _ _ hk0, List.append_nil] at this; exact this
                  have HC := Aside0.mk hcc
                  clear hcc hc hkk
                  obtain ⟨K, hrev⟩ := Ev.rounds (Reverse_ev acc (by have := ha.out; omega))
                  have HV := Aside0.mk hrev
                  clear hrev
                  go_wp2_with (first | (go_at_call 58; refine (slices_Reverse_byte_byte.calls K (fun _ => True) u12 acc acc.reverse w _ hM.out.below HO.out HV.out).mono ?_; rintro e w2 ⟨rfl, ho, hb, hkept⟩; have hcs := own_string (P := Try.prog) Try.underlying39 Try.underlying5 Try.underlying9 (Kd.own_of_R ho); have HBF := Aside0.mk hb; clear hb ho hkept))
                  go_ret2
                  refine ⟨?_, HBF.out⟩
                  have := HR3.out
                  simp only [Prod.mk.injEq] at this
                  rw [← this.1, ← this.2, HC.out]
                  rfl
            · rw [if_neg h0] at hR'
              have HR3 := Aside0.mk hR'
              have hb0 : ((rd_T56 st.list (i : Int)).f0 == 0) = false := by simp [h0]
              have hrr := hI.out.rest i hi
              obtain ⟨ρ, hρ⟩ : ∃ x, x = (rd_T56 st.list (i : Int)).f0 := ⟨_, rfl⟩
              rw [← hρ] at hrr hx0 hb0 HR3
              clear hR' h0
              have HP := Aside0.mk hρ
              clear hρ
              have hcv := fun (W : World) => Lib.run_convert_string_bytes (P := Try.prog) W 9 39 5 s Try.underlying9 Try.underlying39 Try.underlying5
              have HM0 := Aside0.mk (hM.out.bytes s)
              go_wp2
              clear cl hx0 hx1 hx2 hb0 hcv
              go_loopg [69] (s.size) (fun g v69 w' => ∃ (j : Nat) (st' : MSt) (vl'' : Value), v69 = .int .i64 j ∧ Aside0 (j + g = s.size) ∧ Aside0 (MInv m st') ∧ Aside0 (i < st'.list.length ∧ (rd_T56 st'.list (i : Int)).f0 = ρ) ∧ Aside0 (mscan m (li s) f (i + 1) (mall m (i : Int) ρ ((li s).drop j) st') = (r1, r2)) ∧ Aside0 (MulW w w' w.heap.size bm bl m vm vl'' vl'' st'.met st'.list (byteBlock wo s)))
              case atStart => exact ⟨0, st, _, rfl, ⟨by omega⟩, hI, ⟨⟨hi, HP.out.symm⟩⟩, HR3, HM0⟩
              case round =>
                clear HM0 HR3 hM hI HP hle hi
                obtain ⟨j, st, vl', rfl, hgj, hI, hP, hf, hM⟩ := hrel
                have hl := hI.out.le
                have cl := cell_of_one hM.out.cl
                have hi := hP.out.1
                obtain ⟨A, c, hv⟩ := Kd.R_slice hM.out.list
                subst hv
                obtain ⟨ad, ha, hx0, _, _⟩ := at_T56 (Kd.R_reads' hM.out.list).2.2 (i : Int) (by omega) (by omega)
                subst ha
                rw [hP.out.2] at hx0
                simp only [Int.toNat_natCast] at hx0
                by_cases hj : j < s.size
                · have hcell := byte_cell s hM.out.ext j hj
                  have hdd := HG.out j hj
                  have hdr := li_drop s j hj
                  rw [hdr] at hf
                  have hf' : mscan m (li s) f (i + 1) (mall m (i : Int) ρ ((li s).drop (j + 1)) (mpush m (i : Int) ρ (bt s j) st)) = (r1, r2) := hf.out
                  clear hdr hf
                  have hI' : Aside0 (MInv m (mpush m (i : Int) ρ (bt s j) st)) := ⟨hI.out.push (by omega) _ _ _ (by omega) (by omega) hdd.1 hdd.2⟩
                  have hlen : (st.met.length : Int) = m := by rw [hI.out.len]
                  have HF := Aside0.mk hf'
                  clear hf'
                  cases hit : rdOf false st.met (nextRest m ρ (bt s j)) with
                  | true =>
                    have e : mpush m (i : Int) ρ (bt s j) st = st := by unfold mpush; rw [if_pos hit]
                    rw [e] at HF
                    have HH := Aside0.mk hit
                    have HL := Aside0.mk hlen
                    clear hit hlen e
                    go_wp2_with (go_at_call 57; refine (push_hit hM.out (i : Int) ρ (bt s j) (by omega) (by omega) (by omega) (by omega) hdd.1 hdd.2 HL.out HH.out).mono ?_; rintro e w' ⟨rfl, H2⟩; clear cl hx0 hcell)
                    go_wp2
                    go_roundg (gk - 1)
                    case measure => have := hgj.out; omega
                    case rel => exact ⟨j + 1, st, _, by go_num, ⟨by have := hgj.out; omega⟩, hI, hP, HF, ⟨H2⟩⟩
                  | false =>
                    have e : mpush m (i : Int) ρ (bt s j) st = ⟨st.met.set (nextRest m ρ (bt s j)).toNat true, st.list ++ [⟨nextRest m ρ (bt s j), i, bt s j⟩]⟩ := by unfold mpush; rw [if_neg (by rw [hit]; decide)]
                    rw [e] at HF hI'
                    have hP' : Aside0 (i < (st.list ++ [(⟨nextRest m ρ (bt s j), i, bt s j⟩ : S56)]).length ∧ (rd_T56 (st.list ++ [(⟨nextRest m ρ (bt s j), i, bt s j⟩ : S56)]) (i : Int)).f0 = ρ) := ⟨⟨by simp; omega, by rw [rd_append, if_pos hi]; exact hP.out.2⟩⟩
                    have HH := Aside0.mk hit
                    have HL := Aside0.mk hlen
                    clear hit hlen e
                    go_wp2_with (go_at_call 57; refine (push_new hM.out (i : Int) ρ (bt s j) (by omega) (by omega) (by omega) (by omega) hdd.1 hdd.2 HL.out HH.out (by omega)).mono ?_; rintro e w' ⟨rfl, vl2, H2⟩; clear cl hx0 hcell)
                    go_wp2
                    go_roundg (gk - 1)
                    case measure => have := hgj.out; omega
                    case rel => exact ⟨j + 1, _, vl2, by go_num, ⟨by have := hgj.out; omega⟩, hI', hP', HF, ⟨H2⟩⟩
                · have hf2 : mscan m (li s) f (i + 1) st = (r1, r2) := by
                    have := hf.out
                    rw [List.drop_of_length_le (by rw [li_length]; omega)] at this
                    exact this
                  have HF := Aside0.mk hf2
                  clear hf2 hf cl hx0
                  go_wp2
                  go_roundg f
                  case measure => omega
                  case rel => exact ⟨i + 1, st, _, by go_num, ⟨by have := hg.out; omega⟩, hI, HF, ⟨hM.out.bare⟩⟩
          · have hR' : ((⟨#[]⟩ : ByteArray), false) = (r1, r2) := by
              have := hR.out
              cases go with
              | zero => exact this
              | succ f => simp only [mscan] at this; rw [if_neg hi] at this; exact this
            clear hR
            simp only [Prod.mk.injEq] at hR'
            obtain ⟨rfl, rfl⟩ := hR'
            go_wp2
            go_ret2
            exact ⟨rfl, hM.out.below⟩

def impl_multiple.f (a0 : Int) (a1 : ByteArray) : Option (ByteArray × Bool) :=
  if 1 ≤ a0 ∧ a0 ≤ 400 ∧ a1.size ≤ 1000 ∧ (li a1).all (fun d => decide (48 ≤ d ∧ d ≤ 57)) = true then some (mscan a0 (li a1) 401 0 (mfirst a0 (li a1) ⟨List.replicate a0.toNat false, []⟩)) else none
theorem impl_multiple.calls (a0 : Int) (a1 : ByteArray) (r1 : ByteArray) (r2 : Bool) (w : World) (h : impl_multiple.f a0 a1 = some (r1, r2)) :
    Calls Try.prog 32 #[.int .i64 a0, .string a1] w fun e w' => e = .returned (.tuple #[.string r1, .bool r2]) ∧ Below w.heap.size w w' := by
  unfold impl_multiple.f at h
  split at h
  · rename_i hc
    obtain ⟨h1, h2, h3, h4⟩ := hc
    obtain ⟨m, rfl⟩ := Int.eq_ofNat_of_zero_le (show 0 ≤ a0 by omega)
    refine multiple_any m a1 w (by omega) (by omega) h3 ?_ r1 r2 ?_
    · intro d hd
      have := List.all_eq_true.1 h4 d hd
      simpa using this
    · have := Option.some.inj h
      rwa [Int.toNat_natCast] at this
  · cases h

end Go.Proofs.Ytpdcjkiejglaiaa.Q

/- Laid by a program of this session (wip/tools/own_print.py) over the translation of this seat: contracts of the functions that the statement reaches. -/
namespace Go.Proofs.Ytpdcjkiejglaiaa.Q
open Go.RowKit Go.Proofs.YtpdcjkiejglaiaaW.PrintWords Go.Proofs.YtpdcjkiejglaiaaW.PrintLast Go.Proofs.YtpdcjkiejglaiaaW.PrintMore
attribute [local go_sem] max2_int min2_int max_two min_two max_three min_three max_four min_four   -- for this text's walks alone
set_option linter.unusedVariables false
set_option linter.unusedSimpArgs false

/-! ### impl_within: function 53 -/
def impl_within.f (a0 : Int) (a1 : Int) (a2 : Int) : Option (Bool) := if a1 ≤ a0 then (some (decide (a0 ≤ a2))) else (some false)
set_option maxHeartbeats 8000000 in
set_option maxRecDepth 100000 in
theorem impl_within.calls (a0 : Int) (a1 : Int) (a2 : Int) (r : Bool) (w : World) (h : impl_within.f a0 a1 a2 = some r) :
    Calls Try.prog 53 #[.int .i64 a0, .int .i64 a1, .int .i64 a2] w fun e w' => e = .returned (.bool r) ∧ Drawn0 w w' := by
  have H : (if a1 ≤ a0 then (some (decide (a0 ≤ a2))) else (some false)) = some r := h
  clear h
  by_cases c4 : a1 ≤ a0
  · rw [if_pos c4] at H
    have c4b0 : decide (a1 ≤ a0) = true := decide_eq_true c4
    clear c4
    obtain rfl := Option.some.inj H
    go_enter Try.func53, Try.ntmps53
    go_wp2
    go_ret
    exact ⟨by first | rfl | (simp; done) | (simp [*]; done), by repeat (first | exact Drawn0.refl _ | apply Drawn0.step)⟩
  · rw [if_neg c4] at H
    have c4b0 : decide (a1 ≤ a0) = false := decide_eq_false c4
    clear c4
    obtain rfl := Option.some.inj H
    go_enter Try.func53, Try.ntmps53
    go_wp2
    go_ret
    exact ⟨by first | rfl | (simp; done) | (simp [*]; done), by repeat (first | exact Drawn0.refl _ | apply Drawn0.step)⟩

end Go.Proofs.Ytpdcjkiejglaiaa.Q

/- Laid by a program of this session (wip/tools/own_print.py) over the translation of this seat: contracts of the functions that the statement reaches. -/
namespace Go.Proofs.Ytpdcjkiejglaiaa.Q
open Go.RowKit Go.Proofs.YtpdcjkiejglaiaaW.PrintWords Go.Proofs.YtpdcjkiejglaiaaW.PrintLast Go.Proofs.YtpdcjkiejglaiaaW.PrintMore
attribute [local go_sem] max2_int min2_int max_two min_two max_three min_three max_four min_four   -- for this text's walks alone
set_option linter.unusedVariables false
set_option linter.unusedSimpArgs false

/-! ### impl_isDivisor: function 30 -/
def impl_isDivisor.f (a0 : Int) : Option (Bool) := (impl_within.f a0 1 400).bind fun t101 => (some t101)
set_option maxHeartbeats 8000000 in
set_option maxRecDepth 100000 in
theorem impl_isDivisor.calls (a0 : Int) (r : Bool) (w : World) (h : impl_isDivisor.f a0 = some r) :
    Calls Try.prog 30 #[.int .i64 a0] w fun e w' => e = .returned (.bool r) ∧ Drawn0 w w' := by
  have H : ((impl_within.f a0 1 400).bind fun t101 => (some t101)) = some r := h
  clear h
  replace H := Option.bind_eq_some_iff.mp H
  obtain ⟨t101, A20, H⟩ := H
  replace H : (some t101) = some r := H
  have A2 := Aside0.mk A20
  clear A20
  obtain rfl := Option.some.inj H
  go_enter Try.func30, Try.ntmps30
  go_wp2_with (first | ((with_reducible refine gate_callee (f := 53) rfl ?_); refine goesL_ (some 4) rfl rfl Try.func53 (by kernel_rfl) rfl #[.int .i64 a0, .int .i64 1, .int .i64 400] rfl (by (try simp only [List.map_toArray, List.map_cons, List.map_nil]); first | done | rfl | (simp only [List.length_drop, List.length_take]; rfl)) ?_; (with_reducible refine (impl_within.calls a0 1 400 t101 _ A2.out).mono ?_); rintro e w' ⟨rfl, ⟨nd, rfl⟩⟩; refine ⟨_, rfl, ?_⟩))
  go_ret
  exact ⟨by first | rfl | (simp; done) | (simp [*]; done), by repeat (first | exact Drawn0.refl _ | apply Drawn0.step)⟩

end Go.Proofs.Ytpdcjkiejglaiaa.Q

/- Laid by a program of this session (wip/tools/own_print.py) over the translation of this seat: contracts of the functions that the statement reaches. -/
namespace Go.Proofs.Ytpdcjkiejglaiaa.Q
open Go.RowKit Go.Proofs.YtpdcjkiejglaiaaW.PrintWords Go.Proofs.YtpdcjkiejglaiaaW.PrintLast Go.Proofs.YtpdcjkiejglaiaaW.PrintMore
attribute [local go_sem] max2_int min2_int max_two min_two max_three min_three max_four min_four   -- for this text's walks alone
set_option linter.unusedVariables false
set_option linter.unusedSimpArgs false

/-! ### impl_DigitsForMultiple: function 16 -/
mutual
def impl_DigitsForMultiple.l0 : Nat → Int → List ByteArray → Int → Option (ByteArray × Bool)
  | 0, _, _, _ => none
  | k + 1, x0, x4, x16 => if x16 < 10 then (impl_DigitsForMultiple.l1 k x0 (([] : List ByteArray)) x16 x4 (x4.length : Int) 0) else (some ((⟨#[]⟩ : ByteArray), false))
def impl_DigitsForMultiple.l1 : Nat → Int → List ByteArray → Int → List ByteArray → Int → Int → Option (ByteArray × Bool)
  | 0, _, _, _, _, _, _ => none
  | k + 1, x0, x5, x16, x19, x20, x21 => if x21 < x20 then (if 0 ≤ x21 then (if x21 < (x19.length : Int) then (impl_DigitsForMultiple.l2 k x0 x5 (rdOf ByteArray.empty x19 x21) 48 x16 x19 x20 x21) else (none)) else (none)) else (impl_DigitsForMultiple.l0 k x0 x5 (wrap64 (x16 + 1)))
def impl_DigitsForMultiple.l2 : Nat → Int → List ByteArray → ByteArray → Int → Int → List ByteArray → Int → Int → Option (ByteArray × Bool)
  | 0, _, _, _, _, _, _, _, _ => none
  | k + 1, x0, x5, x7, x8, x16, x19, x20, x21 => if x8 ≤ 57 then (if x7.toList = ([] : List UInt8) then (impl_DigitsForMultiple.j3 k x0 x5 x7 x8 x16 x19 x20 x21 false) else (if 0 ≤ (wrap64 ((x7.size : Int) - 1)) then (if (wrap64 ((x7.size : Int) - 1)) < (x7.size : Int) then (impl_DigitsForMultiple.j3 k x0 x5 x7 x8 x16 x19 x20 x21 (decide (x8 ≤ (bt x7 (wrap64 ((x7.size : Int) - 1)))))) else (none)) else (none))) else (impl_DigitsForMultiple.l1 k x0 x5 x16 x19 x20 (wrap64 (x21 + 1)))
def impl_DigitsForMultiple.j3 : Nat → Int → List ByteArray → ByteArray → Int → Int → List ByteArray → Int → Int → Bool → Option (ByteArray × Bool)
  | 0, _, _, _, _, _, _, _, _, _ => none
  | k + 1, x0, x5, x7, x8, x16, x19, x20, x21, x39 => if x39 = true then (impl_DigitsForMultiple.l2 k x0 x5 x7 ((x8 + 1) % 256) x16 x19 x20 x21) else ((some (([x8] : List Int) : List Int)).bind fun y109 => (if x7.size + (strOfNums y109).size ≤ 9223372036854775807 then ((impl_multiple.f x0 (x7 ++ (strOfNums y109))).bind fun bt112 => (if bt112.2 = true then (some (x7 ++ (strOfNums y109), true)) else (if x5.length < 8796093022208 then (impl_DigitsForMultiple.l2 k x0 (x5 ++ [x7 ++ (strOfNums y109)]) x7 ((x8 + 1) % 256) x16 x19 x20 x21) else (none)))) else (none)))
end
def impl_DigitsForMultiple.f (k : Nat) (a0 : Int) : Option (ByteArray × Bool) := (impl_isDivisor.f a0).bind fun t101 => (if t101 = true then (impl_DigitsForMultiple.l0 k a0 (([(⟨#[]⟩ : ByteArray)] : List ByteArray)) 0) else (some ((⟨#[]⟩ : ByteArray), false)))
theorem impl_DigitsForMultiple.mono_l : ∀ k, (∀ y0 y1 y2, LeO (impl_DigitsForMultiple.l0 k y0 y1 y2) (impl_DigitsForMultiple.l0 (k + 1) y0 y1 y2)) ∧ (∀ y0 y1 y2 y3 y4 y5, LeO (impl_DigitsForMultiple.l1 k y0 y1 y2 y3 y4 y5) (impl_DigitsForMultiple.l1 (k + 1) y0 y1 y2 y3 y4 y5)) ∧ (∀ y0 y1 y2 y3 y4 y5 y6 y7, LeO (impl_DigitsForMultiple.l2 k y0 y1 y2 y3 y4 y5 y6 y7) (impl_DigitsForMultiple.l2 (k + 1) y0 y1 y2 y3 y4 y5 y6 y7)) ∧ (∀ y0 y1 y2 y3 y4 y5 y6 y7 y8, LeO (impl_DigitsForMultiple.j3 k y0 y1 y2 y3 y4 y5 y6 y7 y8) (impl_DigitsForMultiple.j3 (k + 1) y0 y1 y2 y3 y4 y5 y6 y7 y8))
  | 0 => ⟨fun _ _ _ r h => by simp [impl_DigitsForMultiple.l0] at h, fun _ _ _ _ _ _ r h => by simp [impl_DigitsForMultiple.l1] at h, fun _ _ _ _ _ _ _ _ r h => by simp [impl_DigitsForMultiple.l2] at h, fun _ _ _ _ _ _ _ _ _ r h => by simp [impl_DigitsForMultiple.j3] at h⟩
  | k + 1 => by
    obtain ⟨ih0, ih1, ih2, ih3⟩ := impl_DigitsForMultiple.mono_l k
    refine ⟨?_, ?_, ?_, ?_⟩
    · intro y0 y1 y2
      unfold impl_DigitsForMultiple.l0
      repeat' first
      | (with_reducible exact ih0 _ _ _)
      | (with_reducible exact ih1 _ _ _ _ _ _)
      | (with_reducible exact ih2 _ _ _ _ _ _ _ _)
      | (with_reducible exact ih3 _ _ _ _ _ _ _ _ _)
      | (with_reducible exact LeO.refl _)
      | (with_reducible exact LeO.none _)
      | (with_reducible refine LeO.ite ?_ ?_)
      | (with_reducible refine LeO.bind ?_ (fun _ => ?_))
      | exact ih0 _ _ _
      | exact ih1 _ _ _ _ _ _
      | exact ih2 _ _ _ _ _ _ _ _
      | exact ih3 _ _ _ _ _ _ _ _ _
      | exact LeO.none _
      | refine LeO.ite ?_ ?_
      | refine LeO.bind ?_ (fun _ => ?_)
    · intro y0 y1 y2 y3 y4 y5
      unfold impl_DigitsForMultiple.l1
      repeat' first
      | (with_reducible exact ih0 _ _ _)
      | (with_reducible exact ih1 _ _ _ _ _ _)
      | (with_reducible exact ih2 _ _ _ _ _ _ _ _)
      | (with_reducible exact ih3 _ _ _ _ _ _ _ _ _)
      | (with_reducible exact LeO.refl _)
      | (with_reducible exact LeO.none _)
      | (with_reducible refine LeO.ite ?_ ?_)
      | (with_reducible refine LeO.bind ?_ (fun _ => ?_))
      | exact ih0 _ _ _
      | exact ih1 _ _ _ _ _ _
      | exact ih2 _ _ _ _ _ _ _ _
      | exact ih3 _ _ _ _ _ _ _ _ _
      | exact LeO.none _
      | refine LeO.ite ?_ ?_
      | refine LeO.bind ?_ (fun _ => ?_)
    · intro y0 y1 y2 y3 y4 y5 y6 y7
      unfold impl_DigitsForMultiple.l2
      repeat' first
      | (with_reducible exact ih0 _ _ _)
      | (with_reducible exact ih1 _ _ _ _ _ _)
      | (with_reducible exact ih2 _ _ _ _ _ _ _ _)
      | (with_reducible exact ih3 _ _ _ _ _ _ _ _ _)
      | (with_reducible exact LeO.refl _)
      | (with_reducible exact LeO.none _)
      | (with_reducible refine LeO.ite ?_ ?_)
      | (with_reducible refine LeO.bind ?_ (fun _ => ?_))
      | exact ih0 _ _ _
      | exact ih1 _ _ _ _ _ _
      | exact ih2 _ _ _ _ _ _ _ _
      | exact ih3 _ _ _ _ _ _ _ _ _
      | exact LeO.none _
      | refine LeO.ite ?_ ?_
      | refine LeO.bind ?_ (fun _ => ?_)
    · intro y0 y1 y2 y3 y4 y5 y6 y7 y8
      unfold impl_DigitsForMultiple.j3
      repeat' first
      | (with_reducible exact ih0 _ _ _)
      | (with_reducible exact ih1 _ _ _ _ _ _)
      | (with_reducible exact ih2 _ _ _ _ _ _ _ _)
      | (with_reducible exact ih3 _ _ _ _ _ _ _ _ _)
      | (with_reducible exact LeO.refl _)
      | (with_reducible exact LeO.none _)
      | (with_reducible refine LeO.ite ?_ ?_)
      | (with_reducible refine LeO.bind ?_ (fun _ => ?_))
      | exact ih0 _ _ _
      | exact ih1 _ _ _ _ _ _
      | exact ih2 _ _ _ _ _ _ _ _
      | exact ih3 _ _ _ _ _ _ _ _ _
      | exact LeO.none _
      | refine LeO.ite ?_ ?_
      | refine LeO.bind ?_ (fun _ => ?_)
theorem impl_DigitsForMultiple.mono : ∀ a0 k, LeO (impl_DigitsForMultiple.f k a0) (impl_DigitsForMultiple.f (k + 1) a0) := by
  intro a0 k
  obtain ⟨ih0, ih1, ih2, ih3⟩ := impl_DigitsForMultiple.mono_l k
  unfold impl_DigitsForMultiple.f
  repeat' first
      | (with_reducible exact ih0 _ _ _)
      | (with_reducible exact ih1 _ _ _ _ _ _)
      | (with_reducible exact ih2 _ _ _ _ _ _ _ _)
      | (with_reducible exact ih3 _ _ _ _ _ _ _ _ _)
      | (with_reducible exact LeO.refl _)
      | (with_reducible exact LeO.none _)
      | (with_reducible refine LeO.ite ?_ ?_)
      | (with_reducible refine LeO.bind ?_ (fun _ => ?_))
      | exact ih0 _ _ _
      | exact ih1 _ _ _ _ _ _
      | exact ih2 _ _ _ _ _ _ _ _
      | exact ih3 _ _ _ _ _ _ _ _ _
      | exact LeO.none _
      | refine LeO.ite ?_ ?_
      | refine LeO.bind ?_ (fun _ => ?_)
set_option maxHeartbeats 8000000 in
set_option maxRecDepth 100000 in
theorem impl_DigitsForMultiple.calls (k : Nat) (a0 : Int) (r1 : ByteArray) (r2 : Bool) (w : World) (h : impl_DigitsForMultiple.f k a0 = some (r1, r2)) :
    Calls Try.prog 16 #[.int .i64 a0] w fun e w' => e = .returned (.tuple #[.string r1, .bool r2]) ∧ Below w.heap.size w w' := by
  have HB := Aside0.mk (Below.refl w.heap.size w)
  have H : ((impl_isDivisor.f a0).bind fun t101 => (if t101 = true then (impl_DigitsForMultiple.l0 k a0 (([(⟨#[]⟩ : ByteArray)] : List ByteArray)) 0) else (some ((⟨#[]⟩ : ByteArray), false)))) = some (r1, r2) := h
  clear h
  replace H := Option.bind_eq_some_iff.mp H
  obtain ⟨t101, A20, H⟩ := H
  replace H : (if t101 = true then (impl_DigitsForMultiple.l0 k a0 (([(⟨#[]⟩ : ByteArray)] : List ByteArray)) 0) else (some ((⟨#[]⟩ : ByteArray), false))) = some (r1, r2) := H
  have A2 := Aside0.mk A20
  clear A20
  by_cases c3 : t101 = true
  · subst c3
    have H1 : (impl_DigitsForMultiple.l0 k a0 (([(⟨#[]⟩ : ByteArray)] : List ByteArray)) 0) = some (r1, r2) := by rw [if_pos rfl] at H; exact H
    clear H
    have H := H1
    clear H1
    obtain ⟨y102, hy102⟩ : ∃ y_ : List ByteArray, y_ = (([(⟨#[]⟩ : ByteArray)] : List ByteArray)) := ⟨_, rfl⟩
    replace H : (impl_DigitsForMultiple.l0 k a0 y102 0) = some (r1, r2) := by first | (rw [hy102]; with_reducible exact H) | (have H2_ := (Option.bind_some _ _).symm.trans H; rw [hy102]; with_reducible exact H2_) | (have H2_ := (Option.bind_some _ _).symm.trans H; with_reducible exact H2_) | with_reducible exact H | (rw [hy102]; exact H) | exact H
    have Ny102 := Aside0.mk hy102
    clear hy102
    have H' := Aside0.mk H
    clear H
    go_enter Try.func16, Try.ntmps16
    go_wp2_with (first | ((with_reducible refine gate_callee (f := 30) rfl ?_); refine goesL_ (some 13) rfl rfl Try.func30 (by kernel_rfl) rfl #[.int .i64 a0] rfl (by (try simp only [List.map_toArray, List.map_cons, List.map_nil]); first | done | rfl | (simp only [List.length_drop, List.length_take]; rfl)) ?_; (with_reducible refine (impl_isDivisor.calls a0 true _ A2.out).mono ?_); rintro e w' ⟨rfl, ⟨nd, rfl⟩⟩; refine ⟨_, rfl, ?_⟩) | ((with_reducible refine gate_dst (N := 15) rfl ?_); (try (refine gate_guard (by rfl) ?_; dsimp only)); refine Kd.R_lit Kd.string _ 9 ?hg (N := 15) ?hd (xs := ([(⟨#[]⟩ : ByteArray)] : List ByteArray)) (inner := [.string (⟨#[]⟩ : ByteArray)]) (ok := fun _ => True) (okp := fun _ => True) ?hr ?hp (fun _ hk => hk) trivial (Below.refl _ _) (Nat.le_refl _) (by simp) ?_; (case hd => rfl); (case hg => rfl); (case hr => first | (go_simp; done) | (go_simp; rfl)); (case hp => exact (Reps.one (show Kd.M Kd.string _ _ _ (⟨#[]⟩ : ByteArray) [.string (⟨#[]⟩ : ByteArray)] from rfl) (Reps.none _ _))); intro v103 w4 ho5 hb hg_ hnew_; clear hg_ hnew_; (first | rw [← Ny102.out] at ho5 | (simp only [Int.reduceToNat] at ho5; rw [← Ny102.out] at ho5)); have n0_ := Aside0.mk (Kd.R_lower ho5 (below_size (by repeat (first | (with_reducible first | exact HB.out | apply below_alloc | apply pw_below_drewN | apply below_drew1) | exact HB.out)))); have n1_ := Aside0.mk (below_step (by repeat (first | (with_reducible first | exact HB.out | apply below_alloc | apply pw_below_drewN | apply below_drew1) | exact HB.out)) hb); clear HB; have HO104 := n0_; have HB := n1_; clear n0_ n1_; clear hb ho5))
    go_loopg [4, 16] k (fun kq v4 v16 w' => ∃ (x4_1 : List ByteArray) (x16_1 : Int), v16 = .int .i64 x16_1 ∧ Aside0 (impl_DigitsForMultiple.l0 kq a0 x4_1 x16_1 = some (r1, r2)) ∧ Aside0 (kq ≤ k) ∧ Aside0 (Kd.R Kd.string 9 w' w.heap.size (fun _ => True) v4 x4_1) ∧ Aside0 (Below w.heap.size w w'))
    case atStart => exact ⟨(y102), (0), (by first | rfl | (simp; done) | (simp [*]; done)), H', ⟨Nat.le_refl _⟩, ⟨by (with_reducible repeat (first | apply Kd.R_alloc | apply Kd.R_drewN | apply Kd.R_drew)); exact HO104.out⟩, ⟨by repeat (first | (with_reducible first | exact HB.out | apply below_alloc | apply pw_below_drewN | apply below_drew1) | exact HB.out)⟩⟩
    case round =>
      clear H'
      try clear c1
      try clear p2
      try clear c3
      obtain ⟨x4_1, x16_1, rfl, HA, HK1, HO_4, HB⟩ := hrel
      cases gk with
      | zero => exact absurd HA.out (by simp [impl_DigitsForMultiple.l0])
      | succ k1 =>
        have H := HA.out
        clear HA
        simp only [impl_DigitsForMultiple.l0] at H
        by_cases c6 : x16_1 < 10
        · rw [if_pos c6] at H
          have c6b0 : decide (x16_1 < 10) = true := decide_eq_true c6
          clear c6
          obtain ⟨y105, hy105⟩ : ∃ y_ : List ByteArray, y_ = (([] : List ByteArray)) := ⟨_, rfl⟩
          replace H : (impl_DigitsForMultiple.l1 k1 a0 y105 x16_1 x4_1 (x4_1.length : Int) 0) = some (r1, r2) := by first | (rw [hy105]; with_reducible exact H) | (have H2_ := (Option.bind_some _ _).symm.trans H; rw [hy105]; with_reducible exact H2_) | (have H2_ := (Option.bind_some _ _).symm.trans H; with_reducible exact H2_) | with_reducible exact H | (rw [hy105]; exact H) | exact H
          have Ny105 := Aside0.mk hy105
          clear hy105
          have H' := Aside0.mk H
          clear H
          go_wp2_with (first | ((with_reducible refine gate_dst (N := 18) rfl ?_); (try (refine gate_guard (by rfl) ?_; dsimp only)); refine Kd.R_lit Kd.string _ 9 ?hg (N := 18) ?hd (xs := ([] : List ByteArray)) (inner := []) (ok := fun _ => True) (okp := fun _ => True) ?hr ?hp (fun _ hk => hk) trivial (Below.refl _ _) (Nat.le_refl _) (by simp) ?_; (case hd => rfl); (case hg => rfl); (case hr => first | (go_simp; done) | (go_simp; rfl)); (case hp => exact (Reps.none _ _)); intro v106 w7 ho8 hb hg_ hnew_; clear hg_ hnew_; (first | rw [← Ny105.out] at ho8 | (simp only [Int.reduceToNat] at ho8; rw [← Ny105.out] at ho8)); have n0_ := Aside0.mk (Kd.R_elder' (by (with_reducible repeat (first | apply Kd.R_alloc | apply Kd.R_drewN | apply Kd.R_drew)); exact HO_4.out) (Kd.R_base ho8) hb); have n1_ := Aside0.mk (Kd.R_lower (Kd.R_new' ho8 (Kd.R_lt (by (with_reducible repeat (first | apply Kd.R_alloc | apply Kd.R_drewN | apply Kd.R_drew)); exact HO_4.out))) (below_size (by repeat (first | (with_reducible first | exact HB.out | apply below_alloc | apply pw_below_drewN | apply below_drew1) | exact HB.out)))); have n2_ := Aside0.mk (below_step (by repeat (first | (with_reducible first | exact HB.out | apply below_alloc | apply pw_below_drewN | apply below_drew1) | exact HB.out)) hb); clear HO_4; clear HB; have HO_4 := n0_; have HO107 := n1_; have HB := n2_; clear n0_ n1_ n2_; clear hb ho8; obtain ⟨Ao9, co9, eo9⟩ := Kd.R_slice HO_4.out; subst eo9))
          go_loopg [5, 21] k1 (fun kq v5 v21 w' => ∃ (x5_2 : List ByteArray) (x21_2 : Int), v21 = .int .i64 x21_2 ∧ Aside0 (impl_DigitsForMultiple.l1 kq a0 x5_2 x16_1 x4_1 (x4_1.length : Int) x21_2 = some (r1, r2)) ∧ Aside0 (kq ≤ k1) ∧ Aside0 (Kd.R Kd.string 9 w' w.heap.size (fun k_ => some k_ ≠ ((.slice Ao9 x4_1.length co9) : Value).ownBlock) v5 x5_2) ∧ Aside0 (Kd.R Kd.string 9 w' w.heap.size (fun k_ => some k_ ≠ (v5 : Value).ownBlock) (.slice Ao9 x4_1.length co9) x4_1) ∧ Aside0 (Below w.heap.size w w'))
          case atStart => exact ⟨(y105), (0), (by first | rfl | (simp; done) | (simp [*]; done)), H', ⟨Nat.le_refl _⟩, ⟨by (with_reducible repeat (first | apply Kd.R_alloc | apply Kd.R_drewN | apply Kd.R_drew)); exact Kd.R_mono HO107.out (fun _ hk => hk.2)⟩, ⟨by (with_reducible repeat (first | apply Kd.R_alloc | apply Kd.R_drewN | apply Kd.R_drew)); exact Kd.R_mono HO_4.out (fun _ hk => hk.2)⟩, ⟨by repeat (first | (with_reducible first | exact HB.out | apply below_alloc | apply pw_below_drewN | apply below_drew1) | exact HB.out)⟩⟩
          case round =>
            clear H'
            try clear c1
            try clear p2
            try clear c3
            try clear c6
            try clear c6b0
            try clear p2
            obtain ⟨x5_2, x21_2, rfl, HA, HK2, HO_5, HO_19, HB⟩ := hrel
            cases gk with
            | zero => exact absurd HA.out (by simp [impl_DigitsForMultiple.l1])
            | succ k2 =>
              have H := HA.out
              clear HA
              simp only [impl_DigitsForMultiple.l1] at H
              by_cases c10 : x21_2 < (x4_1.length : Int)
              · rw [if_pos c10] at H
                have c10b0 : decide (x21_2 < (x4_1.length : Int)) = true := decide_eq_true c10
                clear c10
                by_cases c11 : 0 ≤ x21_2
                · rw [if_pos c11] at H
                  have c11b0 : decide (0 ≤ x21_2) = true := decide_eq_true c11
                  clear c11
                  by_cases c12 : x21_2 < (x4_1.length : Int)
                  · rw [if_pos c12] at H
                    have c12b0 : decide (x21_2 < (x4_1.length : Int)) = true := decide_eq_true c12
                    clear c12
                    have H' := Aside0.mk H
                    clear H
                    have p108 : 0 ≤ (x21_2 : Int) := of_decide_eq_true (by first | (with_reducible assumption) | assumption)
                    have q108 : x21_2 < (x4_1.length : Int) := of_decide_eq_true (by first | (with_reducible assumption) | assumption)
                    obtain ⟨ad108, e108, hx108_0⟩ := Kd.at_string (Kd.R_reads' HO_19.out).2.2 x21_2 p108 q108
                    cases e108
                    replace p108 := eq_true p108
                    replace q108 := eq_true q108
                    go_wp2
                    go_loopg [5, 8] k2 (fun kq v5 v8 w' => ∃ (x5_3 : List ByteArray) (x8_3 : Int), v8 = .int .u8 x8_3 ∧ Aside0 (impl_DigitsForMultiple.l2 kq a0 x5_3 (rdOf ByteArray.empty x4_1 x21_2) x8_3 x16_1 x4_1 (x4_1.length : Int) x21_2 = some (r1, r2)) ∧ Aside0 (kq ≤ k2) ∧ Aside0 (Kd.R Kd.string 9 w' w.heap.size (fun k_ => some k_ ≠ ((.slice (some ad108) x4_1.length co9) : Value).ownBlock) v5 x5_3) ∧ Aside0 (Kd.R Kd.string 9 w' w.heap.size (fun k_ => some k_ ≠ (v5 : Value).ownBlock) (.slice (some ad108) x4_1.length co9) x4_1) ∧ Aside0 (Below w.heap.size w w'))
                    case atStart => exact ⟨(x5_2), (48), (by first | rfl | (simp; done) | (simp [*]; done)), H', ⟨Nat.le_refl _⟩, ⟨by (with_reducible repeat (first | apply Kd.R_alloc | apply Kd.R_drewN | apply Kd.R_drew)); exact HO_5.out⟩, ⟨by (with_reducible repeat (first | apply Kd.R_alloc | apply Kd.R_drewN | apply Kd.R_drew)); exact HO_19.out⟩, ⟨by repeat (first | (with_reducible first | exact HB.out | apply below_alloc | apply pw_below_drewN | apply below_drew1) | exact HB.out)⟩⟩
                    case round =>
                      clear H'
                      try clear c1
                      try clear p1
                      try clear q1
                      try clear hx1
                      try clear p2
                      try clear c3
                      try clear c6
                      try clear c6b0
                      try clear c10
                      try clear c10b0
                      try clear p10
                      try clear q10
                      try clear hx10
                      try clear c11
                      try clear c11b0
                      try clear c12
                      try clear c12b0
                      try clear hx108_0
                      try clear p108
                      try clear p2
                      try clear q108
                      obtain ⟨x5_3, x8_3, rfl, HA, HK3, HO_5, HO_19, HB⟩ := hrel
                      cases gk with
                      | zero => exact absurd HA.out (by simp [impl_DigitsForMultiple.l2])
                      | succ k3 =>
                        have H := HA.out
                        clear HA
                        simp only [impl_DigitsForMultiple.l2] at H
                        by_cases c13 : x8_3 ≤ 57
                        · rw [if_pos c13] at H
                          have c13b0 : decide (x8_3 ≤ 57) = true := decide_eq_true c13
                          clear c13
                          have HC14 := Aside0.mk H
                          clear H
                          go_upto_region 13 with (fail)
                          go_cut [39] (fun v39 wc => ∃ (kq : Nat) (x39_13 : Bool), v39 = .bool x39_13 ∧ Aside0 (impl_DigitsForMultiple.j3 kq a0 x5_3 (rdOf ByteArray.empty x4_1 x21_2) x8_3 x16_1 x4_1 (x4_1.length : Int) x21_2 x39_13 = some (r1, r2)) ∧ Aside0 (kq ≤ k3) ∧ Aside0 (Kd.R Kd.string 9 wc w.heap.size (fun k_ => some k_ ≠ ((.slice (some ad108) x4_1.length co9) : Value).ownBlock) u5 x5_3) ∧ Aside0 (Kd.R Kd.string 9 wc w.heap.size (fun k_ => some k_ ≠ (u5 : Value).ownBlock) (.slice (some ad108) x4_1.length co9) x4_1) ∧ Aside0 (Below w.heap.size w wc))
                          case first =>
                            have H := HC14.out
                            clear HC14
                            by_cases c15 : (rdOf ByteArray.empty x4_1 x21_2).toList = ([] : List UInt8)
                            · rw [if_pos c15] at H
                              have c15b0 : ((rdOf ByteArray.empty x4_1 x21_2).toList == ([] : List UInt8)) = true := beq_iff_eq.mpr c15
                              have c15b1 : ((rdOf ByteArray.empty x4_1 x21_2).toList != ([] : List UInt8)) = false := bne_eq_false_iff_eq.mpr c15
                              clear c15
                              (first | rw [c15b0] | (simp only [i64_w, i32_w]; rw [c15b0]) | skip)
                              have H' := Aside0.mk H
                              clear H
                              go_wp2
                              go_meet
                              case rel => exact ⟨_, (false), (by first | rfl | (simp; done) | (simp [*]; done)), H', ⟨by have := HK1.out; have := HK2.out; have := HK3.out; first | omega | exact Nat.le_refl _⟩, ⟨by (with_reducible repeat (first | apply Kd.R_alloc | apply Kd.R_drewN | apply Kd.R_drew)); exact HO_5.out⟩, ⟨by (with_reducible repeat (first | apply Kd.R_alloc | apply Kd.R_drewN | apply Kd.R_drew)); exact HO_19.out⟩, ⟨by repeat (first | (with_reducible first | exact HB.out | apply below_alloc | apply pw_below_drewN | apply below_drew1) | exact HB.out)⟩⟩
                            · rw [if_neg c15] at H
                              have c15b0 : ((rdOf ByteArray.empty x4_1 x21_2).toList == ([] : List UInt8)) = false := beq_eq_false_iff_ne.mpr c15
                              have c15b1 : ((rdOf ByteArray.empty x4_1 x21_2).toList != ([] : List UInt8)) = true := bne_iff_ne.mpr c15
                              (first | rw [c15b0] | (simp only [i64_w, i32_w]; rw [c15b0]) | skip)
                              obtain ⟨ji16, hji16⟩ : ∃ j_ : Int, (wrap64 (((rdOf ByteArray.empty x4_1 x21_2).size : Int) - 1)) = j_ := ⟨_, rfl⟩
                              replace H : (if 0 ≤ (ji16) then (if (ji16) < ((rdOf ByteArray.empty x4_1 x21_2).size : Int) then (impl_DigitsForMultiple.j3 k3 a0 x5_3 (rdOf ByteArray.empty x4_1 x21_2) x8_3 x16_1 x4_1 (x4_1.length : Int) x21_2 (decide (x8_3 ≤ (bt (rdOf ByteArray.empty x4_1 x21_2) (ji16))))) else (none)) else (none)) = some (r1, r2) := by first | (rw [hji16] at H; exact H) | (simp only [hji16] at H ⊢; exact H)
                              have hji16w : (IntKind.i64.wrap (((rdOf ByteArray.empty x4_1 x21_2).size : Int) - 1)) = ji16 := (i64_w _).trans hji16
                              by_cases c17 : 0 ≤ (ji16)
                              · rw [if_pos c17] at H
                                have c17b0 : decide (0 ≤ (ji16)) = true := decide_eq_true c17
                                clear c17
                                by_cases c18 : (ji16) < ((rdOf ByteArray.empty x4_1 x21_2).size : Int)
                                · rw [if_pos c18] at H
                                  have c18b0 : decide ((ji16) < ((rdOf ByteArray.empty x4_1 x21_2).size : Int)) = true := decide_eq_true c18
                                  clear c18
                                  have H' := Aside0.mk H
                                  clear H
                                  have p19 : 0 ≤ ((ji16) : Int) := of_decide_eq_true (by first | (with_reducible assumption) | assumption)
                                  have q19 : (ji16) < ((rdOf ByteArray.empty x4_1 x21_2).size : Int) := of_decide_eq_true (by first | (with_reducible assumption) | assumption)
                                  have hx19 := bt_at (rdOf ByteArray.empty x4_1 x21_2) (ji16)
                                  replace p19 := eq_true p19
                                  replace q19 := eq_true q19
                                  go_wp2
                                  go_meet
                                  case rel => exact ⟨_, (decide (x8_3 ≤ (bt (rdOf ByteArray.empty x4_1 x21_2) (ji16)))), (by first | rfl | (simp; done) | (simp only [← hji16] <;> (first | rfl | simp)) | (simp [*]; done)), H', ⟨by have := HK1.out; have := HK2.out; have := HK3.out; first | omega | exact Nat.le_refl _⟩, ⟨by (with_reducible repeat (first | apply Kd.R_alloc | apply Kd.R_drewN | apply Kd.R_drew)); exact HO_5.out⟩, ⟨by (with_reducible repeat (first | apply Kd.R_alloc | apply Kd.R_drewN | apply Kd.R_drew)); exact HO_19.out⟩, ⟨by repeat (first | (with_reducible first | exact HB.out | apply below_alloc | apply pw_below_drewN | apply below_drew1) | exact HB.out)⟩⟩
                                · rw [if_neg c18] at H
                                  exact absurd H (by simp)
                              · rw [if_neg c17] at H
                                exact absurd H (by simp)
                          case rest =>
                            clear HC14
                            try clear c1
                            try clear p1
                            try clear q1
                            try clear hx1
                            try clear p2
                            try clear c3
                            try clear c6
                            try clear c6b0
                            try clear p6
                            try clear c10
                            try clear c10b0
                            try clear p10
                            try clear q10
                            try clear hx10
                            try clear c11
                            try clear c11b0
                            try clear c12
                            try clear c12b0
                            try clear c13
                            try clear c13b0
                            try clear c15
                            try clear c15b0
                            try clear c15b1
                            try clear c16
                            try clear c17
                            try clear c17b0
                            try clear c18
                            try clear c18b0
                            try clear p19
                            try clear q19
                            try clear hx19
                            try clear hx108_0
                            try clear p1
                            try clear p10
                            try clear p108
                            try clear p19
                            try clear p2
                            try clear q1
                            try clear q10
                            try clear q108
                            try clear q19
                            obtain ⟨kq, x39_13, rfl, HA, HJ13, HO_5, HO_19, HB⟩ := hcut
                            cases kq with
                            | zero => exact absurd HA.out (by simp [impl_DigitsForMultiple.j3])
                            | succ kj13 =>
                              have H := HA.out
                              clear HA
                              simp only [impl_DigitsForMultiple.j3] at H
                              by_cases c20 : x39_13 = true
                              · subst c20
                                have H1 : (impl_DigitsForMultiple.l2 kj13 a0 x5_3 (rdOf ByteArray.empty x4_1 x21_2) ((x8_3 + 1) % 256) x16_1 x4_1 (x4_1.length : Int) x21_2) = some (r1, r2) := by rw [if_pos rfl] at H; exact H
                                clear H
                                have H := H1
                                clear H1
                                have H' := Aside0.mk H
                                clear H
                                go_wp2
                                go_roundg kj13
                                case measure => have := HK1.out; have := HK2.out; have := HK3.out; have := HJ13.out; omega
                                case rel => exact ⟨(x5_3), ((x8_3 + 1) % 256), (by first | rfl | (simp; done) | (simp [*]; done)), H', ⟨by have := HK1.out; have := HK2.out; have := HK3.out; have := HJ13.out; omega⟩, ⟨by (with_reducible repeat (first | apply Kd.R_alloc | apply Kd.R_drewN | apply Kd.R_drew)); exact HO_5.out⟩, ⟨by (with_reducible repeat (first | apply Kd.R_alloc | apply Kd.R_drewN | apply Kd.R_drew)); exact HO_19.out⟩, ⟨by repeat (first | (with_reducible first | exact HB.out | apply below_alloc | apply pw_below_drewN | apply below_drew1) | exact HB.out)⟩⟩
                              · replace c20 := Bool.eq_false_iff.mpr c20
                                subst c20
                                have H1 : ((some (([x8_3] : List Int) : List Int)).bind fun y109 => (if (rdOf ByteArray.empty x4_1 x21_2).size + (strOfNums y109).size ≤ 9223372036854775807 then ((impl_multiple.f a0 ((rdOf ByteArray.empty x4_1 x21_2) ++ (strOfNums y109))).bind fun bt112 => (if bt112.2 = true then (some ((rdOf ByteArray.empty x4_1 x21_2) ++ (strOfNums y109), true)) else (if x5_3.length < 8796093022208 then (impl_DigitsForMultiple.l2 kj13 a0 (x5_3 ++ [(rdOf ByteArray.empty x4_1 x21_2) ++ (strOfNums y109)]) (rdOf ByteArray.empty x4_1 x21_2) ((x8_3 + 1) % 256) x16_1 x4_1 (x4_1.length : Int) x21_2) else (none)))) else (none))) = some (r1, r2) := by rw [if_neg (show ¬ (false = true) by decide)] at H; exact H
                                clear H
                                have H := H1
                                clear H1
                                obtain ⟨y109, hy109⟩ : ∃ y_ : List Int, y_ = (([x8_3] : List Int)) := ⟨_, rfl⟩
                                replace H : (if (rdOf ByteArray.empty x4_1 x21_2).size + (strOfNums y109).size ≤ 9223372036854775807 then ((impl_multiple.f a0 ((rdOf ByteArray.empty x4_1 x21_2) ++ (strOfNums y109))).bind fun bt112 => (if bt112.2 = true then (some ((rdOf ByteArray.empty x4_1 x21_2) ++ (strOfNums y109), true)) else (if x5_3.length < 8796093022208 then (impl_DigitsForMultiple.l2 kj13 a0 (x5_3 ++ [(rdOf ByteArray.empty x4_1 x21_2) ++ (strOfNums y109)]) (rdOf ByteArray.empty x4_1 x21_2) ((x8_3 + 1) % 256) x16_1 x4_1 (x4_1.length : Int) x21_2) else (none)))) else (none)) = some (r1, r2) := by first | (rw [hy109]; with_reducible exact H) | (have H2_ := (Option.bind_some _ _).symm.trans H; rw [hy109]; with_reducible exact H2_) | (have H2_ := (Option.bind_some _ _).symm.trans H; with_reducible exact H2_) | with_reducible exact H | (rw [hy109]; exact H) | exact H
                                have Ny109 := Aside0.mk hy109
                                clear hy109
                                by_cases c21 : (rdOf ByteArray.empty x4_1 x21_2).size + (strOfNums y109).size ≤ 9223372036854775807
                                · rw [if_pos c21] at H
                                  have c21b0 := eq_true c21
                                  have c21b1 : decide ((rdOf ByteArray.empty x4_1 x21_2).size + (strOfNums y109).size ≤ 9223372036854775807) = true := decide_eq_true c21
                                  try have c21b2 : (9223372036854775807 < (rdOf ByteArray.empty x4_1 x21_2).size + (strOfNums y109).size) = False := eq_false (Nat.not_lt.2 c21)
                                  replace H := Option.bind_eq_some_iff.mp H
                                  obtain ⟨⟨t112, t113⟩, A220, H⟩ := H
                                  replace H : (if t113 = true then (some ((rdOf ByteArray.empty x4_1 x21_2) ++ (strOfNums y109), true)) else (if x5_3.length < 8796093022208 then (impl_DigitsForMultiple.l2 kj13 a0 (x5_3 ++ [(rdOf ByteArray.empty x4_1 x21_2) ++ (strOfNums y109)]) (rdOf ByteArray.empty x4_1 x21_2) ((x8_3 + 1) % 256) x16_1 x4_1 (x4_1.length : Int) x21_2) else (none))) = some (r1, r2) := H
                                  have A22 := Aside0.mk A220
                                  clear A220
                                  by_cases c23 : t113 = true
                                  · subst c23
                                    have H1 : (some ((rdOf ByteArray.empty x4_1 x21_2) ++ (strOfNums y109), true)) = some (r1, r2) := by rw [if_pos rfl] at H; exact H
                                    clear H
                                    have H := H1
                                    clear H1
                                    simp only [Option.some.injEq, Prod.mk.injEq] at H
                                    obtain ⟨rfl, rfl⟩ := H
                                    go_wp2_with (first | ((with_reducible refine gate_dst (N := 42) rfl ?_); (try (refine gate_guard (by rfl) ?_; dsimp only)); refine Kd.R_lit (Kd.int .u8) _ 5 ?hg (N := 42) ?hd (xs := ([x8_3] : List Int)) (inner := [.int .u8 x8_3]) (ok := fun _ => True) (okp := fun _ => True) ?hr ?hp (fun _ hk => hk) trivial (Below.refl _ _) (Nat.le_refl _) (by simp) ?_; (case hd => rfl); (case hg => rfl); (case hr => first | (go_simp; done) | (go_simp; rfl)); (case hp => exact (Reps.one (show Kd.M (Kd.int .u8) _ _ _ x8_3 [.int .u8 x8_3] from rfl) (Reps.none _ _))); intro v110 w24 ho25 hb hg_ hnew_; clear hg_ hnew_; (first | rw [← Ny109.out] at ho25 | (simp only [Int.reduceToNat] at ho25; rw [← Ny109.out] at ho25)); have n0_ := Aside0.mk (Kd.R_below (by (with_reducible repeat (first | apply Kd.R_alloc | apply Kd.R_drewN | apply Kd.R_drew)); exact HO_5.out) hb); have n1_ := Aside0.mk (Kd.R_below (by (with_reducible repeat (first | apply Kd.R_alloc | apply Kd.R_drewN | apply Kd.R_drew)); exact HO_19.out) hb); have n2_ := Aside0.mk (Kd.R_lower ho25 (below_size (by repeat (first | (with_reducible first | exact HB.out | apply below_alloc | apply pw_below_drewN | apply below_drew1) | exact HB.out)))); have n3_ := Aside0.mk (below_step (by repeat (first | (with_reducible first | exact HB.out | apply below_alloc | apply pw_below_drewN | apply below_drew1) | exact HB.out)) hb); clear HO_5; clear HO_19; clear HB; have HO_5 := n0_; have HO_19 := n1_; have HO111 := n2_; have HB := n3_; clear n0_ n1_ n2_ n3_; clear hb ho25; have hcv26 := own_string (P := Try.prog) Try.underlying39 Try.underlying5 Try.underlying9 (Kd.own_of_R HO111.out)) | ((with_reducible refine gate_callee (f := 32) rfl ?_); refine goesL_ (some 48) rfl rfl Try.func32 (by kernel_rfl) rfl #[.int .i64 a0, .string ((rdOf ByteArray.empty x4_1 x21_2) ++ (strOfNums y109))] rfl (by (try simp only [List.map_toArray, List.map_cons, List.map_nil]); first | done | rfl | (simp only [List.length_drop, List.length_take]; rfl)) ?_; (with_reducible refine (impl_multiple.calls a0 ((rdOf ByteArray.empty x4_1 x21_2) ++ (strOfNums y109)) t112 true _ A22.out).mono ?_); rintro e w27 ⟨rfl, hb⟩; refine ⟨_, rfl, ?_⟩; have n0_ := Aside0.mk (Kd.R_below (by (with_reducible repeat (first | apply Kd.R_alloc | apply Kd.R_drewN | apply Kd.R_drew)); exact HO_5.out) hb); have n1_ := Aside0.mk (Kd.R_below (by (with_reducible repeat (first | apply Kd.R_alloc | apply Kd.R_drewN | apply Kd.R_drew)); exact HO_19.out) hb); have n2_ := Aside0.mk (Kd.R_below (by (with_reducible repeat (first | apply Kd.R_alloc | apply Kd.R_drewN | apply Kd.R_drew)); exact HO111.out) hb); have n3_ := Aside0.mk (below_step (by repeat (first | (with_reducible first | exact HB.out | apply below_alloc | apply pw_below_drewN | apply below_drew1) | exact HB.out)) hb); clear HO_5; clear HO_19; clear HO111; clear HB; have HO_5 := n0_; have HO_19 := n1_; have HO111 := n2_; have HB := n3_; clear n0_ n1_ n2_ n3_; (try clear hb); (try clear hb2); (try clear hk); (try clear hi)))
                                    go_ret2
                                    exact ⟨by first | rfl | (simp [errW_none, errW_some] <;> rfl) | (simp [*, errW_none, errW_some] <;> rfl), by repeat (first | (with_reducible first | exact HB.out | apply below_alloc | apply pw_below_drewN | apply below_drew1) | exact HB.out)⟩
                                  · replace c23 := Bool.eq_false_iff.mpr c23
                                    subst c23
                                    have H1 : (if x5_3.length < 8796093022208 then (impl_DigitsForMultiple.l2 kj13 a0 (x5_3 ++ [(rdOf ByteArray.empty x4_1 x21_2) ++ (strOfNums y109)]) (rdOf ByteArray.empty x4_1 x21_2) ((x8_3 + 1) % 256) x16_1 x4_1 (x4_1.length : Int) x21_2) else (none)) = some (r1, r2) := by rw [if_neg (show ¬ (false = true) by decide)] at H; exact H
                                    clear H
                                    have H := H1
                                    clear H1
                                    by_cases c28 : x5_3.length < 8796093022208
                                    · rw [if_pos c28] at H
                                      have LMc28 := Aside0.mk c28
                                      clear c28
                                      obtain ⟨y114, hy114⟩ : ∃ y_ : List ByteArray, y_ = (x5_3 ++ [(rdOf ByteArray.empty x4_1 x21_2) ++ (strOfNums y109)]) := ⟨_, rfl⟩
                                      replace H : (impl_DigitsForMultiple.l2 kj13 a0 y114 (rdOf ByteArray.empty x4_1 x21_2) ((x8_3 + 1) % 256) x16_1 x4_1 (x4_1.length : Int) x21_2) = some (r1, r2) := by first | (rw [hy114]; with_reducible exact H) | (have H2_ := (Option.bind_some _ _).symm.trans H; rw [hy114]; with_reducible exact H2_) | (have H2_ := (Option.bind_some _ _).symm.trans H; with_reducible exact H2_) | with_reducible exact H | (rw [hy114]; exact H) | exact H
                                      have Ny114 := Aside0.mk hy114
                                      clear hy114
                                      have H' := Aside0.mk H
                                      clear H
                                      go_wp2_with (first | ((with_reducible refine gate_dst (N := 42) rfl ?_); (try (refine gate_guard (by rfl) ?_; dsimp only)); refine Kd.R_lit (Kd.int .u8) _ 5 ?hg (N := 42) ?hd (xs := ([x8_3] : List Int)) (inner := [.int .u8 x8_3]) (ok := fun _ => True) (okp := fun _ => True) ?hr ?hp (fun _ hk => hk) trivial (Below.refl _ _) (Nat.le_refl _) (by simp) ?_; (case hd => rfl); (case hg => rfl); (case hr => first | (go_simp; done) | (go_simp; rfl)); (case hp => exact (Reps.one (show Kd.M (Kd.int .u8) _ _ _ x8_3 [.int .u8 x8_3] from rfl) (Reps.none _ _))); intro v110 w29 ho30 hb hg_ hnew_; clear hg_ hnew_; (first | rw [← Ny109.out] at ho30 | (simp only [Int.reduceToNat] at ho30; rw [← Ny109.out] at ho30)); have n0_ := Aside0.mk (Kd.R_below (by (with_reducible repeat (first | apply Kd.R_alloc | apply Kd.R_drewN | apply Kd.R_drew)); exact HO_5.out) hb); have n1_ := Aside0.mk (Kd.R_below (by (with_reducible repeat (first | apply Kd.R_alloc | apply Kd.R_drewN | apply Kd.R_drew)); exact HO_19.out) hb); have n2_ := Aside0.mk (Kd.R_lower ho30 (below_size (by repeat (first | (with_reducible first | exact HB.out | apply below_alloc | apply pw_below_drewN | apply below_drew1) | exact HB.out)))); have n3_ := Aside0.mk (below_step (by repeat (first | (with_reducible first | exact HB.out | apply below_alloc | apply pw_below_drewN | apply below_drew1) | exact HB.out)) hb); clear HO_5; clear HO_19; clear HB; have HO_5 := n0_; have HO_19 := n1_; have HO111 := n2_; have HB := n3_; clear n0_ n1_ n2_ n3_; clear hb ho30; have hcv31 := own_string (P := Try.prog) Try.underlying39 Try.underlying5 Try.underlying9 (Kd.own_of_R HO111.out)) | ((with_reducible refine gate_callee (f := 32) rfl ?_); refine goesL_ (some 48) rfl rfl Try.func32 (by kernel_rfl) rfl #[.int .i64 a0, .string ((rdOf ByteArray.empty x4_1 x21_2) ++ (strOfNums y109))] rfl (by (try simp only [List.map_toArray, List.map_cons, List.map_nil]); first | done | rfl | (simp only [List.length_drop, List.length_take]; rfl)) ?_; (with_reducible refine (impl_multiple.calls a0 ((rdOf ByteArray.empty x4_1 x21_2) ++ (strOfNums y109)) t112 false _ A22.out).mono ?_); rintro e w32 ⟨rfl, hb⟩; refine ⟨_, rfl, ?_⟩; have n0_ := Aside0.mk (Kd.R_below (by (with_reducible repeat (first | apply Kd.R_alloc | apply Kd.R_drewN | apply Kd.R_drew)); exact HO_5.out) hb); have n1_ := Aside0.mk (Kd.R_below (by (with_reducible repeat (first | apply Kd.R_alloc | apply Kd.R_drewN | apply Kd.R_drew)); exact HO_19.out) hb); have n2_ := Aside0.mk (Kd.R_below (by (with_reducible repeat (first | apply Kd.R_alloc | apply Kd.R_drewN | apply Kd.R_drew)); exact HO111.out) hb); have n3_ := Aside0.mk (below_step (by repeat (first | (with_reducible first | exact HB.out | apply below_alloc | apply pw_below_drewN | apply below_drew1) | exact HB.out)) hb); clear HO_5; clear HO_19; clear HO111; clear HB; have HO_5 := n0_; have HO_19 := n1_; have HO111 := n2_; have HB := n3_; clear n0_ n1_ n2_ n3_; (try clear hb); (try clear hb2); (try clear hk); (try clear hi)) | ((with_reducible refine gate_builtin (b := .append) (xs := #[.tmp 53, .tmp 55]) rfl ?_); (try (refine gate_guard (by rfl) ?_; dsimp only)); at_builtin; refine Kd.R_append Kd.string (w0 := w) w.heap.size rfl (.tmp 53) (.tmp 55) 38 9 (.string ⟨#[]⟩) 16 rfl Try.underlying38 info9 rfl (by decide) (by omega) u5 x5_3 ((rdOf ByteArray.empty x4_1 x21_2) ++ (strOfNums y109)) [.string ((rdOf ByteArray.empty x4_1 x21_2) ++ (strOfNums y109))] (fun k_ => some k_ ≠ (.slice (some ad108) x4_1.length co9 : Value).ownBlock) (fun _ => False) rfl rfl ?aP (fun _ hk => hk.elim) ?aF ?aO ?aB ?aS ?aL ?_; (case aP => exact rfl); (case aB => exact (by repeat (first | (with_reducible first | exact HB.out | apply below_alloc | apply pw_below_drewN | apply below_drew1) | exact HB.out))); (case aF => exact (fun k_ hk => Kd.fresh' (Kd.R_lt (by (with_reducible repeat (first | apply Kd.R_alloc | apply Kd.R_drewN | apply Kd.R_drew)); exact HO_19.out)) k_ hk)); (case aO => exact (by (with_reducible repeat (first | apply Kd.R_alloc | apply Kd.R_drewN | apply Kd.R_drew)); exact HO_5.out)); (case aS => exact (below_size (by repeat (first | (with_reducible first | exact HB.out | apply below_alloc | apply pw_below_drewN | apply below_drew1) | exact HB.out)))); (case aL => have := LMc28.out; omega); intro v115 w33 ho hb hg hat; rw [← Ny114.out] at ho; have n0_ := Aside0.mk (Kd.R_after (ok := (fun _ => True)) (by (with_reducible repeat (first | apply Kd.R_alloc | apply Kd.R_drewN | apply Kd.R_drew)); exact Kd.R_mono HO_19.out (fun _ hk => ⟨trivial, hk⟩)) hg hat); have n1_ := Aside0.mk (Kd.R_over' (by (with_reducible repeat (first | apply Kd.R_alloc | apply Kd.R_drewN | apply Kd.R_drew)); exact HO111.out) (Kd.R_typed (by (with_reducible repeat (first | apply Kd.R_alloc | apply Kd.R_drewN | apply Kd.R_drew)); exact HO_5.out)) (by decide) hg); have n2_ := Aside0.mk (hb); have n3_ := Aside0.mk (ho); clear HO_19; clear HO111; clear HB; clear HO_5; have HO_19 := n0_; have HO111 := n1_; have HB := n2_; have HO116 := n3_; clear n0_ n1_ n2_ n3_; clear ho hb hg hat))
                                      go_roundg kj13
                                      case measure => have := HK1.out; have := HK2.out; have := HK3.out; have := HJ13.out; omega
                                      case rel => exact ⟨(y114), ((x8_3 + 1) % 256), (by first | rfl | (simp; done) | (simp [*]; done)), H', ⟨by have := HK1.out; have := HK2.out; have := HK3.out; have := HJ13.out; omega⟩, ⟨by (with_reducible repeat (first | apply Kd.R_alloc | apply Kd.R_drewN | apply Kd.R_drew)); exact HO116.out⟩, ⟨by (with_reducible repeat (first | apply Kd.R_alloc | apply Kd.R_drewN | apply Kd.R_drew)); exact Kd.R_mono HO_19.out (fun _ hk => hk.2)⟩, ⟨by repeat (first | (with_reducible first | exact HB.out | apply below_alloc | apply pw_below_drewN | apply below_drew1) | exact HB.out)⟩⟩
                                    · rw [if_neg c28] at H
                                      exact absurd H (by simp)
                                · rw [if_neg c21] at H
                                  exact absurd H (by simp)
                        · rw [if_neg c13] at H
                          have c13b0 : decide (x8_3 ≤ 57) = false := decide_eq_false c13
                          clear c13
                          have H' := Aside0.mk H
                          clear H
                          go_wp2
                          go_roundg k3
                          case measure => have := HK1.out; have := HK2.out; have := HK3.out; omega
                          case rel => exact ⟨(x5_3), (wrap64 (x21_2 + 1)), (by first | rfl | (simp; done) | (simp [*]; done)), H', ⟨by have := HK1.out; have := HK2.out; have := HK3.out; omega⟩, ⟨by (with_reducible repeat (first | apply Kd.R_alloc | apply Kd.R_drewN | apply Kd.R_drew)); exact HO_5.out⟩, ⟨by (with_reducible repeat (first | apply Kd.R_alloc | apply Kd.R_drewN | apply Kd.R_drew)); exact HO_19.out⟩, ⟨by repeat (first | (with_reducible first | exact HB.out | apply below_alloc | apply pw_below_drewN | apply below_drew1) | exact HB.out)⟩⟩
                  · rw [if_neg c12] at H
                    exact absurd H (by simp)
                · rw [if_neg c11] at H
                  exact absurd H (by simp)
              · rw [if_neg c10] at H
                have c10b0 : decide (x21_2 < (x4_1.length : Int)) = false := decide_eq_false c10
                clear c10
                have H' := Aside0.mk H
                clear H
                go_wp2
                go_roundg k2
                case measure => have := HK1.out; have := HK2.out; omega
                case rel => exact ⟨(x5_2), (wrap64 (x16_1 + 1)), (by first | rfl | (simp; done) | (simp [*]; done)), H', ⟨by have := HK1.out; have := HK2.out; omega⟩, ⟨by (with_reducible repeat (first | apply Kd.R_alloc | apply Kd.R_drewN | apply Kd.R_drew)); exact Kd.R_mono HO_5.out (fun _ hk => trivial)⟩, ⟨by repeat (first | (with_reducible first | exact HB.out | apply below_alloc | apply pw_below_drewN | apply below_drew1) | exact HB.out)⟩⟩
        · rw [if_neg c6] at H
          have c6b0 : decide (x16_1 < 10) = false := decide_eq_false c6
          clear c6
          simp only [Option.some.injEq, Prod.mk.injEq] at H
          obtain ⟨rfl, rfl⟩ := H
          go_wp2
          go_ret2
          exact ⟨by first | rfl | (simp [errW_none, errW_some] <;> rfl) | (simp [*, errW_none, errW_some] <;> rfl), by repeat (first | (with_reducible first | exact HB.out | apply below_alloc | apply pw_below_drewN | apply below_drew1) | exact HB.out)⟩
  · replace c3 := Bool.eq_false_iff.mpr c3
    subst c3
    have H1 : (some ((⟨#[]⟩ : ByteArray), false)) = some (r1, r2) := by rw [if_neg (show ¬ (false = true) by decide)] at H; exact H
    clear H
    have H := H1
    clear H1
    simp only [Option.some.injEq, Prod.mk.injEq] at H
    obtain ⟨rfl, rfl⟩ := H
    go_enter Try.func16, Try.ntmps16
    go_wp2_with (first | ((with_reducible refine gate_callee (f := 30) rfl ?_); refine goesL_ (some 13) rfl rfl Try.func30 (by kernel_rfl) rfl #[.int .i64 a0] rfl (by (try simp only [List.map_toArray, List.map_cons, List.map_nil]); first | done | rfl | (simp only [List.length_drop, List.length_take]; rfl)) ?_; (with_reducible refine (impl_isDivisor.calls a0 false _ A2.out).mono ?_); rintro e w' ⟨rfl, ⟨nd, rfl⟩⟩; refine ⟨_, rfl, ?_⟩))
    go_ret2
    exact ⟨by first | rfl | (simp [errW_none, errW_some] <;> rfl) | (simp [*, errW_none, errW_some] <;> rfl), by repeat (first | (with_reducible first | exact HB.out | apply below_alloc | apply pw_below_drewN | apply below_drew1) | exact HB.out)⟩

end Go.Proofs.Ytpdcjkiejglaiaa.Q
