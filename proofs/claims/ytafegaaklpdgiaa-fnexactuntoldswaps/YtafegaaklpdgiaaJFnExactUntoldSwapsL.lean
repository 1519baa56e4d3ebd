/-
  The statement of FnExactUntoldSwaps, proved: for every input the law returns true, and each argument reads behind the call as it read before.
-/
import Derived.Test.YtafegaaklpdgiaaRows
import Derived.Test.YtafegaaklpdgiaaJFnExactUntoldSwaps3
import Derived.WalkKit
import Derived.ProofKit
import Derived.OpenShut
import Derived.ChangeOld
import Derived.Below
import Derived.ChangeSlices
import Derived.Lib.SmallJoins
import Derived.SizedLaws

namespace Go.Proofs.Ytafegaaklpdgiaa.fnExactUntoldSwaps
open Go.ChangeShapes Go.WideShapes Go.ChangeAt Go.RowKit Go.Joins Go.Deep
set_option linter.unusedVariables false
theorem own : ownKnob Try.prog.godebug = none := by kernel_rfl
theorem laidOut : laidOutB Try.prog = true := by kernel_rfl
open Go.Proofs.YtafegaaklpdgiaaW.PrintWords in
/-- a row of ints, read -/
theorem row_of (w : World) (ad : Addr) (len : Nat) (zs : List Int) (hl : len ≤ zs.length) (hm : len ≤ 9223372036854775807) (hc : ∀ i, i < zs.length → w.cell? (ad.add i) = some (.int .i64 (zs.getD i 0))) :
    Kd.C (Kd.int .i64) w (some ad) (zs.take len).length (zs.take len) := by
  have e : (zs.take len).length = len := by rw [List.length_take]; omega
  refine ⟨rfl, by omega, fun _ => ⟨ad, rfl, fun j p hj => ?_⟩⟩
  have hj2 := (List.getElem?_eq_some_iff.1 hj).1
  rw [e] at hj2
  refine ⟨[.int .i64 p], rfl, rfl, fun i u hu => ?_⟩
  cases i with
  | zero =>
    have hp : p = zs.getD j 0 := by
      rw [List.getElem?_take, if_pos hj2] at hj
      rw [List.getD_eq_getElem?_getD, hj]
      rfl
    have hu2 : u = .int .i64 p := by simpa using hu.symm
    have hcj := hc j (by omega)
    rw [← hp, ← hu2] at hcj
    rw [show j * (Kd.int .i64).sz + 0 = j from Nat.mul_one j]
    exact hcj
  | succ i => simp at hu
set_option maxRecDepth 100000 in
theorem lifted (os : Os) (started : os.Started) (H : Type) (enc : TypeId × Value → H) :
    ReturnsInHanded {} Try.checked os 5 .any (Rows.fnExactUntoldSwapsSpec.pre6 enc Try.prog Try.f5 Rows.fnExactUntoldSwapsRow.domain false) (Rows.fnExactUntoldSwapsSpec.post enc Try.prog Try.f5 false true false false) := by
  refine returnsInHanded_of_change_sized (C := Try.checked) own started (by kernel_rfl) Try.func5
    (ChangeSpec.witness6 (enc := enc) (C := Try.checked) false ⟨#[], #[.agg #[.slice none 0 0, .int .i64 0]], []⟩ 8 (by kernel_rfl) (by kernel_rfl) (by kernel_rfl) (by kernel_rfl)) ?_
  intro W base args ds gs before hval0 hW hcnd hsz0 _
  have hval : ∀ (j : Nat) t v, Try.f5.params[j]? = some t → args[j]? = some v → Value.okWide Try.prog W .any base t v := hval0
  have hW' := hW
  obtain ⟨p, q, hA0, hV, rfl, hfz, hnd⟩ := hW
  have hA : DataW.TrodAll enc Try.prog W 0 (fun _ => true) true Try.f5.params.toList args.toList ds p := hA0
  rw [Try.params5] at hA hval
  obtain ⟨v0, vs0, d0, ds0, p0, q0, hargs, rfl, rfl, h0, r0⟩ := trodAll_cons hA
  obtain ⟨rfl, rfl, rfl⟩ := trodAll_nil r0
  obtain rfl : args = #[v0] := by cases args; simp_all
  obtain ⟨rfl, rfl⟩ := trodVars_none hV
  have k0 := h0
  have lt0 : ∀ x ∈ p0, x.block < W.heap.size := by obtain ⟨m, hm⟩ := k0; exact DataW.trod_lt m _ _ _ hm
  obtain ⟨u0, u1, y0, y1, n, rfl, rfl, rfl, e0, e1⟩ := open_agg2 Try.underlying29 (by kernel_rfl) (by kernel_rfl) (hval 0 29 v0 rfl rfl) h0
  obtain ⟨m, hu1, _, _⟩ := DataW.trod_int Try.underlying3 e1
  obtain rfl : u1 = .int .i64 m := by simpa using hu1
  have hwalk : Calls Try.prog 5 #[.agg #[u0, .int .i64 m]] W fun e w' => e = .returned (.bool true) ∧ Below W.heap.size W w' := by
    rcases open_ints Try.underlying22 Try.underlying3 (by kernel_rfl) e0 with ⟨hcs, _⟩ | ⟨x, len, cap, zs, hcs, _, hl, hm, hz, _, hcell, hwz⟩
    · obtain rfl : u0 = .slice none 0 0 := by simpa using hcs
      exact Q.law5_all none 0 [] m W (Go.Proofs.YtafegaaklpdgiaaW.PrintWords.Kd.C_nil _ _) (Nat.le_refl _)
    · obtain rfl : u0 = .slice (some x) len cap := by simpa using hcs
      have hlen : len ≤ zs.length := by
        rw [hz]
        split
        · exact hl
        · exact Nat.le_refl _
      have hmax : len ≤ 9223372036854775807 := by unfold maxLen at hm; omega
      have hC := row_of W x len zs hlen hmax hcell
      have e : (zs.take len).length = len := by rw [List.length_take]; omega
      have := Q.law5_all (some x) cap (zs.take len) m W hC (by omega)
      rw [e] at this
      exact this
  clear hA0 hval0 hsz0
  refine hwalk.mono fun e W' ⟨he, bel⟩ => ?_
  subst he
  exact ⟨_, rfl, _, _, _, [], _, [], hW', trodAll_mk1 (shut_bool Try.underlying4 _), (trodAll_cons_mk (Below.trod laidOut (by kernel_rfl) (of_decide_eq_true (by kernel_rfl)) k0 bel lt0) trodAll_mk0), rfl, bel.frame _, fun h => by cases h⟩
theorem over : Rows.fnExactUntoldSwapsRow.holds Try.pinned (OpenSpec.ofChange Rows.fnExactUntoldSwapsSpec) :=
  OpenClaim.holds_of_wide 5 Try.f5 rfl rfl rfl rfl rfl rfl rfl ⟨rfl, rfl, rfl, rfl, rfl⟩ rfl rfl rfl rfl rfl (by kernel_rfl) Try.func5 (by kernel_rfl)
    (of_decide_eq_true (by kernel_rfl)) (by unfold Func.isWrapper; first | (rw [if_pos (by decide +kernel)]; kernel_rfl) | (rw [if_neg (by decide +kernel)]; exact ⟨rfl, rfl⟩))
    (fun os started H enc _ => lifted os started H enc)
theorem proved : Rows.FnExactUntoldSwapsSaid := over
#print axioms proved
end Go.Proofs.Ytafegaaklpdgiaa.fnExactUntoldSwaps
namespace Go.Proofs.Ytafegaaklpdgiaa
/-- The row, under a short name, for the claim. -/
theorem fnExactUntoldSwaps_holds : Rows.FnExactUntoldSwapsSaid := fnExactUntoldSwaps.proved
end Go.Proofs.Ytafegaaklpdgiaa
