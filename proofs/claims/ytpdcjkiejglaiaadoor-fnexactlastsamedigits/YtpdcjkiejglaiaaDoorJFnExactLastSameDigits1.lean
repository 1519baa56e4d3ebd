/-
  Texts of this claim, joined in their build order: the contracts of the functions that the statement reaches, and plain lemmas.
-/
import Derived.Test.YtpdcjkiejglaiaaDoorJFnExactLastSameDigits0
import Derived.BigQuiet
import Derived.Laws.EntriesVeiled
import Derived.Lib.ItoaMem
import Derived.OneCell
import Derived.Lib.OwnBridge
import Derived.Shelf.SlicesE.Reverse
import Derived.Shelf.SlicesE.Kit
import Derived.Test.YtpdcjkiejglaiaaDoorProg

/-
  'search' and the function that it calls itself by: the first text of so many digits, not before a bound, of which each beginning passes a test. The test is told by a law of its own.
-/
namespace Go.Proofs.YtpdcjkiejglaiaaDoor.Q
open Go.RowKit Go.Proofs.YtpdcjkiejglaiaaDoorW.PrintWords Go.Proofs.YtpdcjkiejglaiaaDoorW.PrintLast Go.Proofs.YtpdcjkiejglaiaaDoorW.PrintMore
set_option linter.unusedVariables false
set_option linter.unusedSimpArgs false

/-- the first of ten -/
def fndK (g : Nat → Option ByteArray) : Nat → Nat → Option ByteArray
  | 0, _ => none
  | r + 1, k => match g k with
    | some x => some x
    | none => fndK g r (k + 1)
def fnd (p : ByteArray → Bool) (bound : ByteArray) : Nat → ByteArray → Bool → Option ByteArray
  | 0, s, _ => some s
  | d + 1, s, t => fndK (fun k => if (t && decide (48 + (k : Int) < bt bound (s.size : Int))) = true then none else if p (s ++ strOfNums [48 + (k : Int)]) = true then fnd p bound d (s ++ strOfNums [48 + (k : Int)]) (t && (48 + (k : Int) == bt bound (s.size : Int))) else none) 10 0

/-- what stands in memory for the search -/
structure SW (w : World) (bb bd bm bf : Nat) (bound : ByteArray) (mv : Value) : Prop where
  h1 : w.heap[bb]? = some (.cells #[.string bound] 9 (0, 0))
  h2 : w.heap[bd]? = some (.cells #[.bool false] 4 (0, 0))
  h3 : w.heap[bm]? = some (.cells #[mv] 37 (0, 0))
  h4 : w.heap[bf]? = some (.cells #[.func (.func 56) #[] #[.pointer (some ⟨bb, 0, none⟩), .pointer (some ⟨bd, 0, none⟩), .pointer (some ⟨bm, 0, none⟩), .pointer (some ⟨bf, 0, none⟩)]] 34 (0, 0))
theorem heap_below {w w' : World} {b : Nat} {o : Obj} (h : w.heap[b]? = some o) (hb : Below w.heap.size w w') : w'.heap[b]? = some o := (hb.block b (Array.getElem?_eq_some_iff.1 h).1).trans h
theorem SW.below {w w' : World} {bb bd bm bf : Nat} {bound : ByteArray} {mv : Value} (h : SW w bb bd bm bf bound mv) (hb : Below w.heap.size w w') : SW w' bb bd bm bf bound mv :=
  ⟨heap_below h.h1 hb, heap_below h.h2 hb, heap_below h.h3 hb, heap_below h.h4 hb⟩
/-- the test's law: at every world that grew from this one -/
def MayOk (w : World) (n : Nat) (f : Nat) (caps : Array Value) (p : ByteArray → Bool) : Prop :=
  ∀ (s : ByteArray) (w' : World), Below w.heap.size w w' → isDig s = true → 1 ≤ s.size → s.size ≤ n → Calls Tryd.prog f (#[.string s] ++ caps) w' fun e w'' => e = .returned (.bool (p s)) ∧ Below w'.heap.size w' w''
theorem MayOk.below {w w1 : World} {n f : Nat} {caps : Array Value} {p : ByteArray → Bool} (h : MayOk w n f caps p) (hb : Below w.heap.size w w1) : MayOk w1 n f caps p :=
  fun s w' hw => h s w' (below_step hb hw)
def outT : Option ByteArray → ByteArray
  | none => ⟨#[]⟩
  | some x => x
theorem dig_u8 (k : Nat) (h : k < 10) : wrap64 (48 + (k : Int)) % 256 = 48 + (k : Int) := by rw [wrap_id (by omega) (by omega)]; omega
theorem isDig_snoc (s : ByteArray) (k : Nat) (hk : k < 10) (h : isDig s = true) : isDig (s ++ strOfNums [48 + (k : Int)]) = true ∧ (s ++ strOfNums [48 + (k : Int)]).size = s.size + 1 := by
  have hz : (strOfNums [48 + (k : Int)]).size = 1 := by rw [← li_length, li_nums _ (by simp; omega)]; rfl
  have hs : (s ++ strOfNums [48 + (k : Int)]).size = s.size + 1 := by rw [ByteArray.size_append, hz]
  refine ⟨?_, hs⟩
  unfold isDig
  rw [allF_iff, hs]
  intro j _ hj
  have hb : bt (s ++ strOfNums [48 + (k : Int)]) (j : Int) = if j < s.size then bt s j else 48 + (k : Int) := by
    rw [bt_li, li_append, li_nums _ (by simp; omega), List.getD_eq_getElem?_getD]
    by_cases c : j < s.size
    · rw [if_pos c, List.getElem?_append_left (by rw [li_length]; exact c), bt_li, List.getD_eq_getElem?_getD]
    · rw [if_neg c, List.getElem?_append_right (by rw [li_length]; omega)]
      obtain rfl : j = s.size := by omega
      simp [li_length]
  simp only [digAt, hb]
  by_cases c : j < s.size
  · rw [if_pos c]; have := isDig_at h j c; simp; omega
  · rw [if_neg c]; simp; omega

theorem goesF_ {P : Program} {ops : Array Oper} {Q : Exit → Act → World → Prop} {oi : Oper} {N : Option Tmp} {a : Act} {w : World} {K : Act → World → Prop} {f : FuncId} {fn : Func} {xs : Array Operand} {ts : Array TypeId} (hf : P.funcs[f]? = some fn) (hname : (fn.name == "runtime.NumGoroutine") = false) (hb : fn.body.isSome = true) (args caps : Array Value) (t : Tmp)
    (hw : Region.wanted oi (yielded ops a.tmps) = true) (hN : oi.dst = N) (hop : oi.op = .call { callee := .value (.tmp t), args := xs, argTypes := ts }) (hv : a.eval (.tmp t) = .func (.func f) #[] caps) (hargs : xs.map a.eval ++ caps = args)
    (h : Calls P f args w fun e w' => ∃ v, e = .returned v ∧ K (a.put N v) w') : if Region.wanted oi (yielded ops a.tmps) = true then Oper.wp P oi a w K Q else K (a.put N undef) w := by
  refine call_ f args hw hN ?_ h
  have he := enters_ hf hname hb args w
  unfold execOp
  simp [hop, resolve, Deferred.ofValue, invoke, hv, hargs, he]
def find.T13 : Bool × List (List Nat × List Nat) := (true, [([], []), ([], []), ([], []), ([2], [2]), ([3], [3]), ([3], [3]), ([3], [3]), ([5, 6, 3], [3, 5, 6]), ([4, 7, 3], [3, 4, 7]), ([3, 8], [3, 8]), ([0, 1, 9, 3], [0, 1, 9]), ([10], [10]), ([11], [11]), ([11], [11]), ([12, 10, 0, 1, 2, 3, 4, 5, 6, 7, 8, 9, 10, 11, 12], [12]), ([13, 14, 0, 1, 2, 3, 4, 5, 6, 7, 8, 9, 10, 11, 12, 13, 14], [13])])
def find.B13 : List Nat := [0, 0, 0, 4, 12, 12, 12, 108, 252, 508, 1023, 2047, 4095, 4095, 8191, 32767]
theorem find.tab13 : rtab .any (opsOf Tryd.f56 13) = find.T13 := by kernel_rfl
theorem find.bits13 : waitsOk find.T13.2 find.B13 = true := by kernel_rfl

set_option maxHeartbeats 8000000 in
set_option maxRecDepth 100000 in
theorem find_any (bound : ByteArray) (n9 : bound.size ≤ 9) (pa pb : Nat) (p : ByteArray → Bool) (bb bd bm bf : Nat) : ∀ (d : Nat) (s : ByteArray) (t : Bool) (w : World), s.size + d = bound.size → isDig s = true →
    SW w bb bd bm bf bound (.func (.func 29) #[] #[.pointer (some ⟨pa, 0, none⟩), .pointer (some ⟨pb, 0, none⟩)]) → MayOk w bound.size 29 #[.pointer (some ⟨pa, 0, none⟩), .pointer (some ⟨pb, 0, none⟩)] p → ∀ (R : Option ByteArray), fnd p bound d s t = R →
    Calls Tryd.prog 56 #[.string s, .bool t, .pointer (some ⟨bb, 0, none⟩), .pointer (some ⟨bd, 0, none⟩), .pointer (some ⟨bm, 0, none⟩), .pointer (some ⟨bf, 0, none⟩)] w fun e w' => e = .returned (.tuple #[.string (outT R), .bool R.isSome]) ∧ Below w.heap.size w w' := by
  intro d
  induction d with
  | zero =>
    intro s t w hsz hdg S M R hR
    have c1 := cell_of_one S.h1
    have e1 : ((s.size : Int) == (bound.size : Int)) = true := by rw [beq_iff_eq]; omega
    have HR := Aside0.mk hR
    clear hR S M
    go_enter Tryd.func56, Tryd.ntmps56
    go_wp2
    go_ret2
    obtain rfl : some s = R := HR.out
    exact ⟨rfl, Below.refl _ _⟩
  | succ d ih =>
    intro s t w hsz hdg S M R hR
    have c1 := cell_of_one S.h1
    have e1 : ((s.size : Int) == (bound.size : Int)) = false := by rw [beq_eq_false_iff_ne]; omega
    have HR := Aside0.mk hR
    have HS := Aside0.mk S
    have HM := Aside0.mk M
    have HD := Aside0.mk hdg
    have HZ := Aside0.mk (show s.size < bound.size by omega)
    have HN := Aside0.mk hsz
    have HIH := Aside0.mk ih
    clear hR S M hdg hsz ih
    go_enter Tryd.func56, Tryd.ntmps56
    go_wp2
    go_loopg [23] 10 (fun g v23 wr => ∃ k : Nat, v23 = .int .i64 (k : Int) ∧ Aside0 (k + g = 10) ∧ Aside0 (fndK (fun k => if (t && decide (48 + (k : Int) < bt bound (s.size : Int))) = true then none else if p (s ++ strOfNums [48 + (k : Int)]) = true then fnd p bound d (s ++ strOfNums [48 + (k : Int)]) (t && (48 + (k : Int) == bt bound (s.size : Int))) else none) g k = R) ∧ Aside0 (Below w.heap.size w wr))
    case atStart => exact ⟨0, rfl, ⟨rfl⟩, ⟨HR.out⟩, ⟨Below.refl _ _⟩⟩
    case round =>
      clear c1
      obtain ⟨k, rfl, hg, hF, hB⟩ := hrel
      by_cases hk : k < 10
      · have hk10 : decide ((k : Int) < 10) = true := decide_eq_true (by omega)
        have eu := dig_u8 k hk
        have S := HS.out.below hB.out
        have c1 := cell_of_one S.h1
        have c2 := cell_of_one S.h2
        have c3 := cell_of_one S.h3
        have c4 := cell_of_one S.h4
        clear S
        have b0 : (0 : Int) ≤ (s.size : Int) := by omega
        have b1 : (s.size : Int) < (bound.size : Int) := by have := HZ.out; omega
        obtain ⟨x, hx⟩ : ∃ x : Int, x = bt bound (s.size : Int) := ⟨_, rfl⟩
        have hbx : ∀ h : s.size < bound.size, ((bound[s.size]'h).toNat : Int) = x := fun h => (bt_at bound (s.size : Int) h).trans hx.symm
        have HX := Aside0.mk hx
        clear hx
        by_cases hskip : (t && decide (48 + (k : Int) < x)) = true
        · obtain ⟨rfl, hcx⟩ : t = true ∧ decide (48 + (k : Int) < x) = true := by simpa using hskip
          go_wp2
          go_roundg (gk - 1)
          case measure => have := hg.out; omega
          case rel =>
            have hgk : gk = (gk - 1) + 1 := by have := hg.out; omega
            refine ⟨k + 1, by go_num, ⟨by have := hg.out; omega⟩, ⟨?_⟩, ⟨hB.out⟩⟩
            have h := hF.out
            rw [hgk] at h
            simp only [fndK] at h
            rw [← HX.out, if_pos hskip] at h
            rw [← HX.out]
            exact h
        · obtain ⟨y, hy⟩ : ∃ y, y = strOfNums [48 + (k : Int)] := ⟨_, rfl⟩
          have hys : y.size = 1 := by rw [hy, ← li_length, li_nums _ (by simp; omega)]; rfl
          obtain ⟨W1, hW1⟩ : ∃ W, W = wr.alloc (.cells #[.int .u8 (48 + (k : Int))] 5) := ⟨_, rfl⟩
          have hcv : Sem.run Tryd.prog (convert 46 9 (.slice (some ⟨wr.heap.size, 0, none⟩) 1 1)) (wr.alloc (.cells #[.int .u8 (48 + (k : Int))] 5)) = .ok (.string y) W1 := by
            rw [hy, hW1]
            refine string_of_reads Tryd.underlying46 Tryd.underlying5 Tryd.underlying9 ⟨rfl, by omega, fun _ => ⟨_, rfl, fun j hj => ?_⟩⟩
            obtain rfl : j = 0 := by omega
            rw [add_plain, cell_of_row _ _ _ _ 5 (0, 0) (heap_alloc_new _ _)]
            rfl
          have hB1 := below_step hB.out (below_alloc (Below.refl wr.heap.size wr) (.cells #[.int .u8 (48 + (k : Int))] 5))
          rw [← hW1] at hB1
          have hcat : s.size + y.size ≤ 9223372036854775807 := by rw [hys]; omega
          have S1 := HS.out.below hB1
          have d1 := cell_of_one S1.h1
          have d2 := cell_of_one S1.h2
          have d3 := cell_of_one S1.h3
          have d4 := cell_of_one S1.h4
          clear S1 hW1
          have hdg := isDig_snoc s k hk HD.out
          rw [← hy] at hdg
          have HY := Aside0.mk hy
          clear hy
          have HDG := Aside0.mk hdg
          clear hdg
          have HB1 := Aside0.mk hB1
          clear hB1
          obtain ⟨t', ht', htt⟩ : ∃ t', (t && (48 + (k : Int) == x)) = t' ∧ ((t = false ∧ t' = false) ∨ (t = true ∧ t' = true ∧ decide (48 + (k : Int) < x) = false ∧ (48 + (k : Int) == x) = true) ∨ (t = true ∧ t' = false ∧ decide (48 + (k : Int) < x) = false ∧ (48 + (k : Int) == x) = false)) := by
            refine ⟨_, rfl, ?_⟩
            cases t with
            | false => exact .inl ⟨rfl, rfl⟩
            | true =>
              have h1 : decide (48 + (k : Int) < x) = false := by
                rw [Bool.true_and, Bool.not_eq_true] at hskip; exact hskip
              cases hb : (48 + (k : Int) == x) with
              | true => exact .inr (.inl ⟨rfl, rfl, h1, rfl⟩)
              | false => exact .inr (.inr ⟨rfl, rfl, h1, rfl⟩)
          -- what the rest of the search tells here
          have hF1 : ∀ q, (if p (s ++ y) = true then fnd p bound d (s ++ y) t' else none) = q → (match q with | some o => some o | none => fndK (fun k => if (t && decide (48 + (k : Int) < bt bound (s.size : Int))) = true then none else if p (s ++ strOfNums [48 + (k : Int)]) = true then fnd p bound d (s ++ strOfNums [48 + (k : Int)]) (t && (48 + (k : Int) == bt bound (s.size : Int))) else none) (gk - 1) (k + 1)) = R := by
            intro q hq
            have hgk : gk = (gk - 1) + 1 := by have := hg.out; omega
            have h := hF.out
            rw [hgk] at h
            simp only [fndK] at h
            rw [← HX.out, if_neg hskip, ← HY.out, ht', hq] at h
            rw [← HX.out]
            exact h
          have HF1 := Aside0.mk hF1
          clear hF1 ht' hskip
          by_cases hp : p (s ++ y) = true
          · obtain ⟨R', hR'⟩ : ∃ R', fnd p bound d (s ++ y) t' = R' := ⟨_, rfl⟩
            have HR' := Aside0.mk hR'
            clear hR'
            rcases htt with ⟨rfl, rfl⟩ | ⟨rfl, rfl, hlt, heq⟩ | ⟨rfl, rfl, hlt, heq⟩
            · go_wp2_with (go_at_call 29; refine (HM.out (s ++ y) W1 HB1.out HDG.out.1 (by rw [HDG.out.2]; omega) (by rw [HDG.out.2]; have := HZ.out; omega)).mono ?_; rintro e W2 ⟨rfl, hb2⟩; have HB2 := Aside0.mk (below_step HB1.out hb2); clear hb2; have S2 := HS.out.below HB2.out; have f1 := cell_of_one S2.h1; have f4 := cell_of_one S2.h4; clear S2 d1 d2 d3 d4 c1 c2 c3 c4 hcv)
              refine start_ (n := 16) (S := fun w' => w'.cell? ⟨bf, 0, none⟩ = some (.func (.func 56) #[] #[.pointer (some ⟨bb, 0, none⟩), .pointer (some ⟨bd, 0, none⟩), .pointer (some ⟨bm, 0, none⟩), .pointer (some ⟨bf, 0, none⟩)]) ∧ w'.cell? ⟨bb, 0, none⟩ = some (.string bound)) (ds := []) #[false, false, false, false, false, false, false, false, false, false, false, false, false, false, false, false] (by kernel_rfl) rfl rfl ⟨f4, f1⟩ (fun hHeld => ?_)
              refine with_tabW find.tab13 find.bits13 (fun HT_ HW_ => ?_)
              refine pure_ (i := 1) (N := some 66) (v := ?_) (a' := ?_) #[false, true, false, false, false, false, false, false, false, false, false, false, false, false, false, false] rfl rfl (any_of HT_.out (by kernel_rfl)) (fun _ _ _ h => h) (Or.inl ⟨by rfl, ?_⟩) ?_ ?_
              rotate_left
              · intro w'
                go_simp
                with_reducible rfl
              rotate_left
              · simp only [Act.put, List.setIfInBounds_toArray, List.set_cons_zero, List.set_cons_succ, i64_w, i32_w]
                rfl
              refine pure_ (i := 2) (N := some 67) (v := ?_) (a' := ?_) #[false, true, true, false, false, false, false, false, false, false, false, false, false, false, false, false] rfl rfl (any_of HT_.out (by kernel_rfl)) (fun _ _ _ h => h) (Or.inl ⟨by rfl, ?_⟩) ?_ ?_
              rotate_left
              · intro w'
                go_simp
                with_reducible rfl
              rotate_left
              · simp only [Act.put, List.setIfInBounds_toArray, List.set_cons_zero, List.set_cons_succ, i64_w, i32_w]
                rfl
              refine pure_ (i := 3) (N := some 68) (v := ?_) (a' := ?_) #[false, true, true, true, false, false, false, false, false, false, false, false, false, false, false, false] rfl rfl (any_of HT_.out (by kernel_rfl)) (fun _ _ _ h => h) (Or.inl ⟨by rfl, ?_⟩) ?_ ?_
              rotate_left
              · intro w'
                go_simp
                with_reducible rfl
              rotate_left
              · simp only [Act.put, List.setIfInBounds_toArray, List.set_cons_zero, List.set_cons_succ, i64_w, i32_w]
                rfl
              refine pure_ (i := 4) (N := some 69) (v := undef) (a' := ?_) #[false, true, true, true, true, false, false, false, false, false, false, false, false, false, false, false] rfl rfl (any_of HT_.out (by kernel_rfl)) (fun _ _ _ h => h) (Or.inr ⟨by rfl, rfl⟩) ?_ ?_
              rotate_left
              · simp only [Act.put, List.setIfInBounds_toArray, List.set_cons_zero, List.set_cons_succ, i64_w, i32_w]
                rfl
              refine pure_ (i := 5) (N := some 70) (v := undef) (a' := ?_) #[false, true, true, true, true, true, false, false, false, false, false, false, false, false, false, false] rfl rfl (any_of HT_.out (by kernel_rfl)) (fun _ _ _ h => h) (Or.inr ⟨by rfl, rfl⟩) ?_ ?_
              rotate_left
              · simp only [Act.put, List.setIfInBounds_toArray, List.set_cons_zero, List.set_cons_succ, i64_w, i32_w]
                rfl
              refine pure_ (i := 6) (N := some 71) (v := undef) (a' := ?_) #[false, true, true, true, true, true, true, false, false, false, false, false, false, false, false, false] rfl rfl (any_of HT_.out (by kernel_rfl)) (fun _ _ _ h => h) (Or.inr ⟨by rfl, rfl⟩) ?_ ?_
              rotate_left
              · simp only [Act.put, List.setIfInBounds_toArray, List.set_cons_zero, List.set_cons_succ, i64_w, i32_w]
                rfl
              refine pure_ (i := 7) (N := some 72) (v := undef) (a' := ?_) #[false, true, true, true, true, true, true, true, false, false, false, false, false, false, false, false] rfl rfl (any_of HT_.out (by kernel_rfl)) (fun _ _ _ h => h) (Or.inr ⟨by rfl, rfl⟩) ?_ ?_
              rotate_left
              · simp only [Act.put, List.setIfInBounds_toArray, List.set_cons_zero, List.set_cons_succ, i64_w, i32_w]
                rfl
              refine pure_ (i := 8) (N := some 73) (v := undef) (a' := ?_) #[false, true, true, true, true, true, true, true, true, false, false, false, false, false, false, false] rfl rfl (any_of HT_.out (by kernel_rfl)) (fun _ _ _ h => h) (Or.inr ⟨by rfl, rfl⟩) ?_ ?_
              rotate_left
              · simp only [Act.put, List.setIfInBounds_toArray, List.set_cons_zero, List.set_cons_succ, i64_w, i32_w]
                rfl
              refine pure_ (i := 9) (N := some 74) (v := ?_) (a' := ?_) #[false, true, true, true, true, true, true, true, true, true, false, false, false, false, false, false] rfl rfl (any_of HT_.out (by kernel_rfl)) (fun _ _ _ h => h) (Or.inl ⟨by rfl, ?_⟩) ?_ ?_
              rotate_left
              · intro w'
                go_simp
                with_reducible rfl
              rotate_left
              · simp only [Act.put, List.setIfInBounds_toArray, List.set_cons_zero, List.set_cons_succ, i64_w, i32_w]
                rfl
              refine take_ (i := 0) (N := some 65) (v := ?_) (a' := ?_) #[true, true, true, true, true, true, true, true, true, true, false, false, false, false, false, false] rfl rfl (take_ofW HT_.out HW_.out (by kernel_rfl)) (fun _ _ _ h => h) (Or.inl ⟨by rfl, ?_⟩) hHeld ?_ ?_
              rotate_left
              · rintro w' ⟨s0, s1⟩
                go_simp
                with_reducible rfl
              rotate_left
              · simp only [Act.put, List.setIfInBounds_toArray, List.set_cons_zero, List.set_cons_succ, i64_w, i32_w]
                rfl
              refine one_ (i := 10) (N := some 75) #[true, true, true, true, true, true, true, true, true, true, true, false, false, false, false, false] rfl rfl (one_of HT_.out (by kernel_rfl)) (by decide) (fun K hK => ?_)
              refine goesF_ Tryd.func56 (by kernel_rfl) rfl #[.string (s ++ y), .bool false, .pointer (some ⟨bb, 0, none⟩), .pointer (some ⟨bd, 0, none⟩), .pointer (some ⟨bm, 0, none⟩), .pointer (some ⟨bf, 0, none⟩)] #[.pointer (some ⟨bb, 0, none⟩), .pointer (some ⟨bd, 0, none⟩), .pointer (some ⟨bm, 0, none⟩), .pointer (some ⟨bf, 0, none⟩)] 65 (by rfl) rfl rfl (by rfl) (by simp only [List.map_toArray, List.map_cons, List.map_nil]; rfl) ?_
              with_reducible refine (HIH.out (s ++ y) false _ (by rw [HDG.out.2]; have := HN.out; omega) HDG.out.1 (HS.out.below (below_drew1 HB2.out)) (HM.out.below (below_drew1 HB2.out)) R' HR'.out).mono ?_
              rintro e W3 ⟨rfl, hb3⟩
              refine ⟨_, rfl, ?_⟩
              have HB3 := Aside0.mk (below_step (below_drew1 HB2.out) hb3)
              clear hb3
              have S3 := HS.out.below HB3.out
              refine hK.out _ _ ⟨cell_of_one S3.h4, cell_of_one S3.h1⟩ (fun hHeld => ?_)
              clear hK K
              refine norm_ (a' := ?_) ?_ ?_
              rotate_left
              · show Act.put _ (some 75) _ = _
                simp only [Act.put, List.setIfInBounds_toArray, List.set_cons_zero, List.set_cons_succ, i64_w, i32_w]
                rfl
              refine pure_ (i := 11) (N := some 64) (v := ?_) (a' := ?_) #[true, true, true, true, true, true, true, true, true, true, true, true, false, false, false, false] rfl rfl (any_of HT_.out (by kernel_rfl)) (fun _ _ _ h => h) (Or.inl ⟨by rfl, ?_⟩) ?_ ?_
              rotate_left
              · intro w'
                go_simp
                with_reducible rfl
              rotate_left
              · simp only [Act.put, List.setIfInBounds_toArray, List.set_cons_zero, List.set_cons_succ, i64_w, i32_w]
                rfl
              refine pure_ (i := 12) (N := some 76) (v := ?_) (a' := ?_) #[true, true, true, true, true, true, true, true, true, true, true, true, true, false, false, false] rfl rfl (any_of HT_.out (by kernel_rfl)) (fun _ _ _ h => h) (Or.inl ⟨by rfl, ?_⟩) ?_ ?_
              rotate_left
              · intro w'
                go_simp
                with_reducible rfl
              rotate_left
              · simp only [Act.put, List.setIfInBounds_toArray, List.set_cons_zero, List.set_cons_succ, i64_w, i32_w]
                rfl
              refine pure_ (i := 13) (N := some 77) (v := ?_) (a' := ?_) #[true, true, true, true, true, true, true, true, true, true, true, true, true, true, false, false] rfl rfl (any_of HT_.out (by kernel_rfl)) (fun _ _ _ h => h) (Or.inl ⟨by rfl, ?_⟩) ?_ ?_
              rotate_left
              · intro w'
                go_simp
                with_reducible rfl
              rotate_left
              · simp only [Act.put, List.setIfInBounds_toArray, List.set_cons_zero, List.set_cons_succ, i64_w, i32_w]
                rfl
              refine pure_ (i := 14) (N := some 14) (v := ?_) (a' := ?_) #[true, true, true, true, true, true, true, true, true, true, true, true, true, true, true, false] rfl rfl (any_of HT_.out (by kernel_rfl)) (fun _ _ _ h => h) (Or.inl ⟨by rfl, ?_⟩) ?_ ?_
              rotate_left
              · intro w'
                go_simp
                with_reducible rfl
              rotate_left
              · simp only [Act.put, List.setIfInBounds_toArray, List.set_cons_zero, List.set_cons_succ, i64_w, i32_w]
                rfl
              refine pure_ (i := 15) (N := some 15) (v := ?_) (a' := ?_) #[true, true, true, true, true, true, true, true, true, true, true, true, true, true, true, true] rfl rfl (any_of HT_.out (by kernel_rfl)) (fun _ _ _ h => h) (Or.inl ⟨by rfl, ?_⟩) ?_ ?_
              rotate_left
              · intro w'
                go_simp
                with_reducible rfl
              rotate_left
              · simp only [Act.put, List.setIfInBounds_toArray, List.set_cons_zero, List.set_cons_succ, i64_w, i32_w]
                rfl
              refine done_ (done_of HT_.out (by kernel_rfl)) ?_
              cases R' with
              | some o =>
                have hfin : some o = R := HF1.out (some o) (by rw [if_pos hp]; exact HR'.out)
                subst hfin
                go_wp2
                go_ret2
                exact ⟨rfl, HB3.out⟩
              | none =>
                go_wp2
                go_roundg (gk - 1)
                case measure => have := hg.out; omega
                case rel => exact ⟨k + 1, by go_num, ⟨by have := hg.out; omega⟩, ⟨HF1.out none (by rw [if_pos hp]; exact HR'.out)⟩, ⟨HB3.out⟩⟩
            · go_wp2_with (go_at_call 29; refine (HM.out (s ++ y) W1 HB1.out HDG.out.1 (by rw [HDG.out.2]; omega) (by rw [HDG.out.2]; have := HZ.out; omega)).mono ?_; rintro e W2 ⟨rfl, hb2⟩; have HB2 := Aside0.mk (below_step HB1.out hb2); clear hb2; have S2 := HS.out.below HB2.out; have f1 := cell_of_one S2.h1; have f4 := cell_of_one S2.h4; clear S2 d1 d2 d3 d4 c1 c2 c3 c4 hcv)
              refine start_ (n := 16) (S := fun w' => w'.cell? ⟨bf, 0, none⟩ = some (.func (.func 56) #[] #[.pointer (some ⟨bb, 0, none⟩), .pointer (some ⟨bd, 0, none⟩), .pointer (some ⟨bm, 0, none⟩), .pointer (some ⟨bf, 0, none⟩)]) ∧ w'.cell? ⟨bb, 0, none⟩ = some (.string bound)) (ds := []) #[false, false, false, false, false, false, false, false, false, false, false, false, false, false, false, false] (by kernel_rfl) rfl rfl ⟨f4, f1⟩ (fun hHeld => ?_)
              refine with_tabW find.tab13 find.bits13 (fun HT_ HW_ => ?_)
              refine pure_ (i := 1) (N := some 66) (v := ?_) (a' := ?_) #[false, true, false, false, false, false, false, false, false, false, false, false, false, false, false, false] rfl rfl (any_of HT_.out (by kernel_rfl)) (fun _ _ _ h => h) (Or.inl ⟨by rfl, ?_⟩) ?_ ?_
              rotate_left
              · intro w'
                go_simp
                with_reducible rfl
              rotate_left
              · simp only [Act.put, List.setIfInBounds_toArray, List.set_cons_zero, List.set_cons_succ, i64_w, i32_w]
                rfl
              refine pure_ (i := 2) (N := some 67) (v := ?_) (a' := ?_) #[false, true, true, false, false, false, false, false, false, false, false, false, false, false, false, false] rfl rfl (any_of HT_.out (by kernel_rfl)) (fun _ _ _ h => h) (Or.inl ⟨by rfl, ?_⟩) ?_ ?_
              rotate_left
              · intro w'
                go_simp
                with_reducible rfl
              rotate_left
              · simp only [Act.put, List.setIfInBounds_toArray, List.set_cons_zero, List.set_cons_succ, i64_w, i32_w]
                rfl
              refine pure_ (i := 3) (N := some 68) (v := ?_) (a' := ?_) #[false, true, true, true, false, false, false, false, false, false, false, false, false, false, false, false] rfl rfl (any_of HT_.out (by kernel_rfl)) (fun _ _ _ h => h) (Or.inl ⟨by rfl, ?_⟩) ?_ ?_
              rotate_left
              · intro w'
                go_simp
                with_reducible rfl
              rotate_left
              · simp only [Act.put, List.setIfInBounds_toArray, List.set_cons_zero, List.set_cons_succ, i64_w, i32_w]
                rfl
              refine pure_ (i := 4) (N := some 69) (v := ?_) (a' := ?_) #[false, true, true, true, true, false, false, false, false, false, false, false, false, false, false, false] rfl rfl (any_of HT_.out (by kernel_rfl)) (fun _ _ _ h => h) (Or.inl ⟨by rfl, ?_⟩) ?_ ?_
              rotate_left
              · intro w'
                go_simp
                with_reducible rfl
              rotate_left
              · simp only [Act.put, List.setIfInBounds_toArray, List.set_cons_zero, List.set_cons_succ, i64_w, i32_w]
                rfl
              refine pure_ (i := 6) (N := some 71) (v := ?_) (a' := ?_) #[false, true, true, true, true, false, true, false, false, false, false, false, false, false, false, false] rfl rfl (any_of HT_.out (by kernel_rfl)) (fun _ _ _ h => h) (Or.inl ⟨by rfl, ?_⟩) ?_ ?_
              rotate_left
              · intro w'
                go_simp
                with_reducible rfl
              rotate_left
              · simp only [Act.put, List.setIfInBounds_toArray, List.set_cons_zero, List.set_cons_succ, i64_w, i32_w]
                rfl
              refine take_ (i := 0) (N := some 65) (v := ?_) (a' := ?_) #[true, true, true, true, true, false, true, false, false, false, false, false, false, false, false, false] rfl rfl (take_ofW HT_.out HW_.out (by kernel_rfl)) (fun _ _ _ h => h) (Or.inl ⟨by rfl, ?_⟩) hHeld ?_ ?_
              rotate_left
              · rintro w' ⟨s0, s1⟩
                go_simp
                with_reducible rfl
              rotate_left
              · simp only [Act.put, List.setIfInBounds_toArray, List.set_cons_zero, List.set_cons_succ, i64_w, i32_w]
                rfl
              refine take_ (i := 5) (N := some 70) (v := ?_) (a' := ?_) #[true, true, true, true, true, true, true, false, false, false, false, false, false, false, false, false] rfl rfl (take_ofW HT_.out HW_.out (by kernel_rfl)) (fun _ _ _ h => h) (Or.inl ⟨by rfl, ?_⟩) hHeld ?_ ?_
              rotate_left
              · rintro w' ⟨s0, s1⟩
                go_simp
                with_reducible rfl
              rotate_left
              · simp only [Act.put, List.setIfInBounds_toArray, List.set_cons_zero, List.set_cons_succ, i64_w, i32_w]
                rfl
              refine take_ (i := 7) (N := some 72) (v := ?_) (a' := ?_) #[true, true, true, true, true, true, true, true, false, false, false, false, false, false, false, false] rfl rfl (take_ofW HT_.out HW_.out (by kernel_rfl)) (fun _ _ _ h => h) (Or.inl ⟨by rfl, ?_⟩) hHeld ?_ ?_
              rotate_left
              · rintro w' ⟨s0, s1⟩
                go_simp
                with_reducible rfl
              rotate_left
              · simp only [Act.put, List.setIfInBounds_toArray, List.set_cons_zero, List.set_cons_succ, i64_w, i32_w]
                rfl
              refine pure_ (i := 8) (N := some 73) (v := ?_) (a' := ?_) #[true, true, true, true, true, true, true, true, true, false, false, false, false, false, false, false] rfl rfl (any_of HT_.out (by kernel_rfl)) (fun _ _ _ h => h) (Or.inl ⟨by rfl, ?_⟩) ?_ ?_
              rotate_left
              · intro w'
                go_simp
                with_reducible rfl
              rotate_left
              · simp only [Act.put, List.setIfInBounds_toArray, List.set_cons_zero, List.set_cons_succ, i64_w, i32_w]
                rfl
              refine pure_ (i := 9) (N := some 74) (v := ?_) (a' := ?_) #[true, true, true, true, true, true, true, true, true, true, false, false, false, false, false, false] rfl rfl (any_of HT_.out (by kernel_rfl)) (fun _ _ _ h => h) (Or.inl ⟨by rfl, ?_⟩) ?_ ?_
              rotate_left
              · intro w'
                go_simp
                with_reducible rfl
              rotate_left
              · simp only [Act.put, List.setIfInBounds_toArray, List.set_cons_zero, List.set_cons_succ, i64_w, i32_w]
                rfl
              refine one_ (i := 10) (N := some 75) #[true, true, true, true, true, true, true, true, true, true, true, false, false, false, false, false] rfl rfl (one_of HT_.out (by kernel_rfl)) (by decide) (fun K hK => ?_)
              refine goesF_ Tryd.func56 (by kernel_rfl) rfl #[.string (s ++ y), .bool true, .pointer (some ⟨bb, 0, none⟩), .pointer (some ⟨bd, 0, none⟩), .pointer (some ⟨bm, 0, none⟩), .pointer (some ⟨bf, 0, none⟩)] #[.pointer (some ⟨bb, 0, none⟩), .pointer (some ⟨bd, 0, none⟩), .pointer (some ⟨bm, 0, none⟩), .pointer (some ⟨bf, 0, none⟩)] 65 (by rfl) rfl rfl (by rfl) (by simp only [List.map_toArray, List.map_cons, List.map_nil]; rfl) ?_
              with_reducible refine (HIH.out (s ++ y) true _ (by rw [HDG.out.2]; have := HN.out; omega) HDG.out.1 (HS.out.below (below_drew1 HB2.out)) (HM.out.below (below_drew1 HB2.out)) R' HR'.out).mono ?_
              rintro e W3 ⟨rfl, hb3⟩
              refine ⟨_, rfl, ?_⟩
              have HB3 := Aside0.mk (below_step (below_drew1 HB2.out) hb3)
              clear hb3
              have S3 := HS.out.below HB3.out
              refine hK.out _ _ ⟨cell_of_one S3.h4, cell_of_one S3.h1⟩ (fun hHeld => ?_)
              clear hK K
              refine norm_ (a' := ?_) ?_ ?_
              rotate_left
              · show Act.put _ (some 75) _ = _
                simp only [Act.put, List.setIfInBounds_toArray, List.set_cons_zero, List.set_cons_succ, i64_w, i32_w]
                rfl
              refine pure_ (i := 11) (N := some 64) (v := ?_) (a' := ?_) #[true, true, true, true, true, true, true, true, true, true, true, true, false, false, false, false] rfl rfl (any_of HT_.out (by kernel_rfl)) (fun _ _ _ h => h) (Or.inl ⟨by rfl, ?_⟩) ?_ ?_
              rotate_left
              · intro w'
                go_simp
                with_reducible rfl
              rotate_left
              · simp only [Act.put, List.setIfInBounds_toArray, List.set_cons_zero, List.set_cons_succ, i64_w, i32_w]
                rfl
              refine pure_ (i := 12) (N := some 76) (v := ?_) (a' := ?_) #[true, true, true, true, true, true, true, true, true, true, true, true, true, false, false, false] rfl rfl (any_of HT_.out (by kernel_rfl)) (fun _ _ _ h => h) (Or.inl ⟨by rfl, ?_⟩) ?_ ?_
              rotate_left
              · intro w'
                go_simp
                with_reducible rfl
              rotate_left
              · simp only [Act.put, List.setIfInBounds_toArray, List.set_cons_zero, List.set_cons_succ, i64_w, i32_w]
                rfl
              refine pure_ (i := 13) (N := some 77) (v := ?_) (a' := ?_) #[true, true, true, true, true, true, true, true, true, true, true, true, true, true, false, false] rfl rfl (any_of HT_.out (by kernel_rfl)) (fun _ _ _ h => h) (Or.inl ⟨by rfl, ?_⟩) ?_ ?_
              rotate_left
              · intro w'
                go_simp
                with_reducible rfl
              rotate_left
              · simp only [Act.put, List.setIfInBounds_toArray, List.set_cons_zero, List.set_cons_succ, i64_w, i32_w]
                rfl
              refine pure_ (i := 14) (N := some 14) (v := ?_) (a' := ?_) #[true, true, true, true, true, true, true, true, true, true, true, true, true, true, true, false] rfl rfl (any_of HT_.out (by kernel_rfl)) (fun _ _ _ h => h) (Or.inl ⟨by rfl, ?_⟩) ?_ ?_
              rotate_left
              · intro w'
                go_simp
                with_reducible rfl
              rotate_left
              · simp only [Act.put, List.setIfInBounds_toArray, List.set_cons_zero, List.set_cons_succ, i64_w, i32_w]
                rfl
              refine pure_ (i := 15) (N := some 15) (v := ?_) (a' := ?_) #[true, true, true, true, true, true, true, true, true, true, true, true, true, true, true, true] rfl rfl (any_of HT_.out (by kernel_rfl)) (fun _ _ _ h => h) (Or.inl ⟨by rfl, ?_⟩) ?_ ?_
              rotate_left
              · intro w'
                go_simp
                with_reducible rfl
              rotate_left
              · simp only [Act.put, List.setIfInBounds_toArray, List.set_cons_zero, List.set_cons_succ, i64_w, i32_w]
                rfl
              refine done_ (done_of HT_.out (by kernel_rfl)) ?_
              cases R' with
              | some o =>
                have hfin : some o = R := HF1.out (some o) (by rw [if_pos hp]; exact HR'.out)
                subst hfin
                go_wp2
                go_ret2
                exact ⟨rfl, HB3.out⟩
              | none =>
                go_wp2
                go_roundg (gk - 1)
                case measure => have := hg.out; omega
                case rel => exact ⟨k + 1, by go_num, ⟨by have := hg.out; omega⟩, ⟨HF1.out none (by rw [if_pos hp]; exact HR'.out)⟩, ⟨HB3.out⟩⟩
            · go_wp2_with (go_at_call 29; refine (HM.out (s ++ y) W1 HB1.out HDG.out.1 (by rw [HDG.out.2]; omega) (by rw [HDG.out.2]; have := HZ.out; omega)).mono ?_; rintro e W2 ⟨rfl, hb2⟩; have HB2 := Aside0.mk (below_step HB1.out hb2); clear hb2; have S2 := HS.out.below HB2.out; have f1 := cell_of_one S2.h1; have f4 := cell_of_one S2.h4; clear S2 d1 d2 d3 d4 c1 c2 c3 c4 hcv)
              refine start_ (n := 16) (S := fun w' => w'.cell? ⟨bf, 0, none⟩ = some (.func (.func 56) #[] #[.pointer (some ⟨bb, 0, none⟩), .pointer (some ⟨bd, 0, none⟩), .pointer (some ⟨bm, 0, none⟩), .pointer (some ⟨bf, 0, none⟩)]) ∧ w'.cell? ⟨bb, 0, none⟩ = some (.string bound)) (ds := []) #[false, false, false, false, false, false, false, false, false, false, false, false, false, false, false, false] (by kernel_rfl) rfl rfl ⟨f4, f1⟩ (fun hHeld => ?_)
              refine with_tabW find.tab13 find.bits13 (fun HT_ HW_ => ?_)
              refine pure_ (i := 1) (N := some 66) (v := ?_) (a' := ?_) #[false, true, false, false, false, false, false, false, false, false, false, false, false, false, false, false] rfl rfl (any_of HT_.out (by kernel_rfl)) (fun _ _ _ h => h) (Or.inl ⟨by rfl, ?_⟩) ?_ ?_
              rotate_left
              · intro w'
                go_simp
                with_reducible rfl
              rotate_left
              · simp only [Act.put, List.setIfInBounds_toArray, List.set_cons_zero, List.set_cons_succ, i64_w, i32_w]
                rfl
              refine pure_ (i := 2) (N := some 67) (v := ?_) (a' := ?_) #[false, true, true, false, false, false, false, false, false, false, false, false, false, false, false, false] rfl rfl (any_of HT_.out (by kernel_rfl)) (fun _ _ _ h => h) (Or.inl ⟨by rfl, ?_⟩) ?_ ?_
              rotate_left
              · intro w'
                go_simp
                with_reducible rfl
              rotate_left
              · simp only [Act.put, List.setIfInBounds_toArray, List.set_cons_zero, List.set_cons_succ, i64_w, i32_w]
                rfl
              refine pure_ (i := 3) (N := some 68) (v := ?_) (a' := ?_) #[false, true, true, true, false, false, false, false, false, false, false, false, false, false, false, false] rfl rfl (any_of HT_.out (by kernel_rfl)) (fun _ _ _ h => h) (Or.inl ⟨by rfl, ?_⟩) ?_ ?_
              rotate_left
              · intro w'
                go_simp
                with_reducible rfl
              rotate_left
              · simp only [Act.put, List.setIfInBounds_toArray, List.set_cons_zero, List.set_cons_succ, i64_w, i32_w]
                rfl
              refine pure_ (i := 4) (N := some 69) (v := ?_) (a' := ?_) #[false, true, true, true, true, false, false, false, false, false, false, false, false, false, false, false] rfl rfl (any_of HT_.out (by kernel_rfl)) (fun _ _ _ h => h) (Or.inl ⟨by rfl, ?_⟩) ?_ ?_
              rotate_left
              · intro w'
                go_simp
                with_reducible rfl
              rotate_left
              · simp only [Act.put, List.setIfInBounds_toArray, List.set_cons_zero, List.set_cons_succ, i64_w, i32_w]
                rfl
              refine pure_ (i := 6) (N := some 71) (v := ?_) (a' := ?_) #[false, true, true, true, true, false, true, false, false, false, false, false, false, false, false, false] rfl rfl (any_of HT_.out (by kernel_rfl)) (fun _ _ _ h => h) (Or.inl ⟨by rfl, ?_⟩) ?_ ?_
              rotate_left
              · intro w'
                go_simp
                with_reducible rfl
              rotate_left
              · simp only [Act.put, List.setIfInBounds_toArray, List.set_cons_zero, List.set_cons_succ, i64_w, i32_w]
                rfl
              refine take_ (i := 0) (N := some 65) (v := ?_) (a' := ?_) #[true, true, true, true, true, false, true, false, false, false, false, false, false, false, false, false] rfl rfl (take_ofW HT_.out HW_.out (by kernel_rfl)) (fun _ _ _ h => h) (Or.inl ⟨by rfl, ?_⟩) hHeld ?_ ?_
              rotate_left
              · rintro w' ⟨s0, s1⟩
                go_simp
                with_reducible rfl
              rotate_left
              · simp only [Act.put, List.setIfInBounds_toArray, List.set_cons_zero, List.set_cons_succ, i64_w, i32_w]
                rfl
              refine take_ (i := 5) (N := some 70) (v := ?_) (a' := ?_) #[true, true, true, true, true, true, true, false, false, false, false, false, false, false, false, false] rfl rfl (take_ofW HT_.out HW_.out (by kernel_rfl)) (fun _ _ _ h => h) (Or.inl ⟨by rfl, ?_⟩) hHeld ?_ ?_
              rotate_left
              · rintro w' ⟨s0, s1⟩
                go_simp
                with_reducible rfl
              rotate_left
              · simp only [Act.put, List.setIfInBounds_toArray, List.set_cons_zero, List.set_cons_succ, i64_w, i32_w]
                rfl
              refine take_ (i := 7) (N := some 72) (v := ?_) (a' := ?_) #[true, true, true, true, true, true, true, true, false, false, false, false, false, false, false, false] rfl rfl (take_ofW HT_.out HW_.out (by kernel_rfl)) (fun _ _ _ h => h) (Or.inl ⟨by rfl, ?_⟩) hHeld ?_ ?_
              rotate_left
              · rintro w' ⟨s0, s1⟩
                go_simp
                with_reducible rfl
              rotate_left
              · simp only [Act.put, List.setIfInBounds_toArray, List.set_cons_zero, List.set_cons_succ, i64_w, i32_w]
                rfl
              refine pure_ (i := 8) (N := some 73) (v := ?_) (a' := ?_) #[true, true, true, true, true, true, true, true, true, false, false, false, false, false, false, false] rfl rfl (any_of HT_.out (by kernel_rfl)) (fun _ _ _ h => h) (Or.inl ⟨by rfl, ?_⟩) ?_ ?_
              rotate_left
              · intro w'
                go_simp
                with_reducible rfl
              rotate_left
              · simp only [Act.put, List.setIfInBounds_toArray, List.set_cons_zero, List.set_cons_succ, i64_w, i32_w]
                rfl
              refine pure_ (i := 9) (N := some 74) (v := ?_) (a' := ?_) #[true, true, true, true, true, true, true, true, true, true, false, false, false, false, false, false] rfl rfl (any_of HT_.out (by kernel_rfl)) (fun _ _ _ h => h) (Or.inl ⟨by rfl, ?_⟩) ?_ ?_
              rotate_left
              · intro w'
                go_simp
                with_reducible rfl
              rotate_left
              · simp only [Act.put, List.setIfInBounds_toArray, List.set_cons_zero, List.set_cons_succ, i64_w, i32_w]
                rfl
              refine one_ (i := 10) (N := some 75) #[true, true, true, true, true, true, true, true, true, true, true, false, false, false, false, false] rfl rfl (one_of HT_.out (by kernel_rfl)) (by decide) (fun K hK => ?_)
              refine goesF_ Tryd.func56 (by kernel_rfl) rfl #[.string (s ++ y), .bool false, .pointer (some ⟨bb, 0, none⟩), .pointer (some ⟨bd, 0, none⟩), .pointer (some ⟨bm, 0, none⟩), .pointer (some ⟨bf, 0, none⟩)] #[.pointer (some ⟨bb, 0, none⟩), .pointer (some ⟨bd, 0, none⟩), .pointer (some ⟨bm, 0, none⟩), .pointer (some ⟨bf, 0, none⟩)] 65 (by rfl) rfl rfl (by rfl) (by simp only [List.map_toArray, List.map_cons, List.map_nil]; rfl) ?_
              with_reducible refine (HIH.out (s ++ y) false _ (by rw [HDG.out.2]; have := HN.out; omega) HDG.out.1 (HS.out.below (below_drew1 HB2.out)) (HM.out.below (below_drew1 HB2.out)) R' HR'.out).mono ?_
              rintro e W3 ⟨rfl, hb3⟩
              refine ⟨_, rfl, ?_⟩
              have HB3 := Aside0.mk (below_step (below_drew1 HB2.out) hb3)
              clear hb3
              have S3 := HS.out.below HB3.out
              refine hK.out _ _ ⟨cell_of_one S3.h4, cell_of_one S3.h1⟩ (fun hHeld => ?_)
              clear hK K
              refine norm_ (a' := ?_) ?_ ?_
              rotate_left
              · show Act.put _ (some 75) _ = _
                simp only [Act.put, List.setIfInBounds_toArray, List.set_cons_zero, List.set_cons_succ, i64_w, i32_w]
                rfl
              refine pure_ (i := 11) (N := some 64) (v := ?_) (a' := ?_) #[true, true, true, true, true, true, true, true, true, true, true, true, false, false, false, false] rfl rfl (any_of HT_.out (by kernel_rfl)) (fun _ _ _ h => h) (Or.inl ⟨by rfl, ?_⟩) ?_ ?_
              rotate_left
              · intro w'
                go_simp
                with_reducible rfl
              rotate_left
              · simp only [Act.put, List.setIfInBounds_toArray, List.set_cons_zero, List.set_cons_succ, i64_w, i32_w]
                rfl
              refine pure_ (i := 12) (N := some 76) (v := ?_) (a' := ?_) #[true, true, true, true, true, true, true, true, true, true, true, true, true, false, false, false] rfl rfl (any_of HT_.out (by kernel_rfl)) (fun _ _ _ h => h) (Or.inl ⟨by rfl, ?_⟩) ?_ ?_
              rotate_left
              · intro w'
                go_simp
                with_reducible rfl
              rotate_left
              · simp only [Act.put, List.setIfInBounds_toArray, List.set_cons_zero, List.set_cons_succ, i64_w, i32_w]
                rfl
              refine pure_ (i := 13) (N := some 77) (v := ?_) (a' := ?_) #[true, true, true, true, true, true, true, true, true, true, true, true, true, true, false, false] rfl rfl (any_of HT_.out (by kernel_rfl)) (fun _ _ _ h => h) (Or.inl ⟨by rfl, ?_⟩) ?_ ?_
              rotate_left
              · intro w'
                go_simp
                with_reducible rfl
              rotate_left
              · simp only [Act.put, List.setIfInBounds_toArray, List.set_cons_zero, List.set_cons_succ, i64_w, i32_w]
                rfl
              refine pure_ (i := 14) (N := some 14) (v := ?_) (a' := ?_) #[true, true, true, true, true, true, true, true, true, true, true, true, true, true, true, false] rfl rfl (any_of HT_.out (by kernel_rfl)) (fun _ _ _ h => h) (Or.inl ⟨by rfl, ?_⟩) ?_ ?_
              rotate_left
              · intro w'
                go_simp
                with_reducible rfl
              rotate_left
              · simp only [Act.put, List.setIfInBounds_toArray, List.set_cons_zero, List.set_cons_succ, i64_w, i32_w]
                rfl
              refine pure_ (i := 15) (N := some 15) (v := ?_) (a' := ?_) #[true, true, true, true, true, true, true, true, true, true, true, true, true, true, true, true] rfl rfl (any_of HT_.out (by kernel_rfl)) (fun _ _ _ h => h) (Or.inl ⟨by rfl, ?_⟩) ?_ ?_
              rotate_left
              · intro w'
                go_simp
                with_reducible rfl
              rotate_left
              · simp only [Act.put, List.setIfInBounds_toArray, List.set_cons_zero, List.set_cons_succ, i64_w, i32_w]
                rfl
              refine done_ (done_of HT_.out (by kernel_rfl)) ?_
              cases R' with
              | some o =>
                have hfin : some o = R := HF1.out (some o) (by rw [if_pos hp]; exact HR'.out)
                subst hfin
                go_wp2
                go_ret2
                exact ⟨rfl, HB3.out⟩
              | none =>
                go_wp2
                go_roundg (gk - 1)
                case measure => have := hg.out; omega
                case rel => exact ⟨k + 1, by go_num, ⟨by have := hg.out; omega⟩, ⟨HF1.out none (by rw [if_pos hp]; exact HR'.out)⟩, ⟨HB3.out⟩⟩
          · rcases htt with ⟨rfl, rfl⟩ | ⟨rfl, rfl, hlt, heq⟩ | ⟨rfl, rfl, hlt, heq⟩
            all_goals
              go_wp2_with (go_at_call 29; refine (HM.out (s ++ y) W1 HB1.out HDG.out.1 (by rw [HDG.out.2]; omega) (by rw [HDG.out.2]; have := HZ.out; omega)).mono ?_; rintro e W2 ⟨rfl, hb2⟩; have HB2 := Aside0.mk (below_step HB1.out hb2); clear hb2; have S2 := HS.out.below HB2.out; have f1 := cell_of_one S2.h1; have f4 := cell_of_one S2.h4; clear S2 d1 d2 d3 d4 c1 c2 c3 c4 hcv)
              go_roundg (gk - 1)
              case measure => have := hg.out; omega
              case rel => exact ⟨k + 1, by go_num, ⟨by have := hg.out; omega⟩, ⟨HF1.out none (by rw [if_neg hp])⟩, ⟨HB2.out⟩⟩
      · obtain rfl : gk = 0 := by have := hg.out; omega
        have hk10 : decide ((k : Int) < 10) = false := decide_eq_false (by omega)
        have hfin : none = R := hF.out
        subst hfin
        go_wp2
        go_ret2
        exact ⟨rfl, hB.out⟩
end Go.Proofs.YtpdcjkiejglaiaaDoor.Q

/-
  'search' and 'nextAround', with the test of NextOfKind.
-/
namespace Go.Proofs.YtpdcjkiejglaiaaDoor.Q
open Go.RowKit Go.Proofs.YtpdcjkiejglaiaaDoorW.PrintWords Go.Proofs.YtpdcjkiejglaiaaDoorW.PrintLast Go.Proofs.YtpdcjkiejglaiaaDoorW.PrintMore
set_option linter.unusedVariables false
set_option linter.unusedSimpArgs false

theorem al_new (w : World) (o : Obj) (k : Nat) (h : k = w.heap.size) : (w.alloc o).heap[k]? = some o := by rw [h]; exact heap_alloc_new w o
theorem al_old (w : World) (o : Obj) (k : Nat) (h : k < w.heap.size) : (w.alloc o).heap[k]? = w.heap[k]? := (below_alloc (Below.refl w.heap.size w) o).block k h
theorem al_size (w : World) (o : Obj) : (w.alloc o).heap.size = w.heap.size + 1 := by simp

theorem search_sw (w : World) (bound : ByteArray) (mv : Value) (q : Value) :
    SW ((((w.alloc (Obj.cells #[Value.string bound] 9)).alloc (Obj.cells #[Value.bool false] 4)).alloc (Obj.cells #[mv] 37)).alloc (Obj.cells #[.func (.func 56) #[] #[.pointer (some ⟨w.heap.size, 0, none⟩), .pointer (some ⟨w.heap.size + 1, 0, none⟩), .pointer (some ⟨w.heap.size + 1 + 1, 0, none⟩), .pointer (some ⟨w.heap.size + 1 + 1 + 1, 0, none⟩)]] 34)) w.heap.size (w.heap.size + 1) (w.heap.size + 1 + 1) (w.heap.size + 1 + 1 + 1) bound mv := by
  constructor
  all_goals repeat (first | exact al_new _ _ _ (by simp only [al_size]) | exact al_new _ _ _ rfl | rw [al_old _ _ _ (by simp only [al_size]; omega)])
theorem dl_zero : ∀ n, dl n 0 = List.replicate n 48
  | 0 => rfl
  | n + 1 => by simp only [dl, Nat.zero_div, dl_zero n, List.replicate_succ']; rfl
theorem repL_zero : ∀ n, Lib.repeatL [48] n = List.replicate n 48
  | 0 => rfl
  | n + 1 => by simp only [Lib.repeatL, repL_zero n, List.replicate_succ]; rfl
theorem rep_zero (n : Nat) : (⟨(Lib.repeatL (⟨#[48]⟩ : ByteArray).data.toList n).toArray⟩ : ByteArray) = tx n 0 := by
  apply li_inj
  rw [li_tx, dl_zero]
  show li ⟨(Lib.repeatL [48] n).toArray⟩ = _
  rw [repL_zero]
  simp [li]

set_option maxHeartbeats 4000000 in
set_option maxRecDepth 100000 in
theorem search_any (bound : ByteArray) (n9 : bound.size ≤ 9) (pa pb : Nat) (p : ByteArray → Bool) (w : World)
    (M : MayOk w bound.size 29 #[.pointer (some ⟨pa, 0, none⟩), .pointer (some ⟨pb, 0, none⟩)] p) (R : Option ByteArray) (hR : fnd p bound bound.size ⟨#[]⟩ true = R) :
    Calls Tryd.prog 46 #[.string bound, .bool false, .func (.func 29) #[] #[.pointer (some ⟨pa, 0, none⟩), .pointer (some ⟨pb, 0, none⟩)]] w fun e w' => e = .returned (.tuple #[.string (outT R), .bool R.isSome]) ∧ Below w.heap.size w w' := by
  have HR := Aside0.mk hR
  have HM := Aside0.mk M
  clear hR M
  go_enter Tryd.func46, Tryd.ntmps46
  go_wp2_with (go_at_call 56; refine (find_any bound n9 pa pb p _ _ _ _ bound.size ⟨#[]⟩ true _ (Nat.zero_add _) rfl (search_sw w bound _ .nilFunc) (HM.out.below (below_alloc (below_alloc (below_alloc (below_alloc (Below.refl _ _) _) _) _) _)) R HR.out).mono ?_; rintro e w1 ⟨rfl, hb⟩; have HB := Aside0.mk (below_step (below_alloc (below_alloc (below_alloc (below_alloc (Below.refl w.heap.size w) _) _) _) _) hb); clear hb)
  go_ret2
  exact ⟨rfl, HB.out⟩

set_option maxHeartbeats 4000000 in
set_option maxRecDepth 100000 in
theorem around_any (reading : ByteArray) (n9 : reading.size ≤ 9) (pa pb : Nat) (p : ByteArray → Bool) (w : World)
    (M : MayOk w reading.size 29 #[.pointer (some ⟨pa, 0, none⟩), .pointer (some ⟨pb, 0, none⟩)] p) (R1 R2 : Option ByteArray) (h1 : fnd p reading reading.size ⟨#[]⟩ true = R1) (h2 : fnd p (tx reading.size 0) reading.size ⟨#[]⟩ true = R2) :
    Calls Tryd.prog 28 #[.string reading, .func (.func 29) #[] #[.pointer (some ⟨pa, 0, none⟩), .pointer (some ⟨pb, 0, none⟩)]] w fun e w' => e = .returned (.tuple #[.string (outT (R1.or R2)), .bool (R1.or R2).isSome]) ∧ Below w.heap.size w w' := by
  have HR1 := Aside0.mk h1
  have HR2 := Aside0.mk h2
  have HM := Aside0.mk M
  have hrep := rep_zero reading.size
  have hz := tx_size reading.size 0
  clear h1 h2 M
  generalize tx reading.size 0 = z at HR2 hrep hz
  have HZ := Aside0.mk hz
  clear hz
  cases R1 with
  | some o =>
    go_enter Tryd.func28, Tryd.ntmps28
    go_wp2_with (go_at_call 46; refine (search_any reading n9 pa pb p w HM.out (some o) HR1.out).mono ?_; rintro e w1 ⟨rfl, hb⟩)
    go_ret2
    exact ⟨rfl, hb⟩
  | none =>
    go_enter Tryd.func28, Tryd.ntmps28
    go_wp2_with (first | (go_at_call 46; first | (with_reducible refine (search_any reading n9 pa pb p w HM.out none HR1.out).mono ?_; rintro e w1 ⟨rfl, hb⟩) | (with_reducible refine (search_any z (by rw [HZ.out]; exact n9) pa pb p _ (by rw [HZ.out]; exact HM.out.below (below_step hb hb2)) R2 (by rw [HZ.out]; exact HR2.out)).mono ?_; rintro e w3 ⟨rfl, hb3⟩)) | (go_at_call 47; refine (Tryd.strings_Repeat ⟨#[48]⟩ reading.size _ (by omega) (by show 1 * reading.size ≤ _; omega)).mono ?_; rintro e w2 ⟨rfl, hb2⟩; rw [hrep]))
    go_ret2
    exact ⟨rfl, below_step (below_step hb hb2) hb3⟩

end Go.Proofs.YtpdcjkiejglaiaaDoor.Q

/-
  A number's digits with zeros in front: the digit text of so many places.
-/
namespace Go.Proofs.YtpdcjkiejglaiaaDoor.Q
open Go.RowKit Go.Proofs.YtpdcjkiejglaiaaDoorW.PrintWords Go.Proofs.YtpdcjkiejglaiaaDoorW.PrintLast Go.Proofs.YtpdcjkiejglaiaaDoorW.PrintMore
set_option linter.unusedVariables false
set_option linter.unusedSimpArgs false

theorem dig_toNat (u : Nat) (h : u < 10) : ((UInt8.ofNat (48 + u)).toNat : Int) = 48 + (u : Int) := by
  simp
  omega
theorem pad_dl : ∀ (d u : Nat), u < 10 ^ (d + 1) → Lib.nDigits u ≤ d + 1 ∧ List.replicate (d + 1 - Lib.nDigits u) 48 ++ (Lib.decDigits u).map (fun c => (c.toNat : Int)) = dl (d + 1) u
  | 0, u, h => by
    have hu : u < 10 := by simpa using h
    rw [Lib.nDigits_small hu, Lib.decDigits_one hu]
    refine ⟨Nat.le_refl _, ?_⟩
    simp only [List.map_cons, List.map_nil, dl, dig_toNat u hu, Nat.mod_eq_of_lt hu]
    rfl
  | d + 1, u, h => by
    by_cases hu : u < 10
    · rw [Lib.nDigits_small hu, Lib.decDigits_one hu]
      refine ⟨by omega, ?_⟩
      simp only [List.map_cons, List.map_nil, dig_toNat u hu]
      have e : dl (d + 1 + 1) u = dl (d + 1) (u / 10) ++ [48 + ((u % 10 : Nat) : Int)] := rfl
      rw [e, Nat.div_eq_of_lt hu, dl_zero, Nat.mod_eq_of_lt hu]
      rfl
    · have ih := pad_dl d (u / 10) (by rw [Nat.pow_succ] at h; omega)
      rw [Lib.nDigits_big hu]
      refine ⟨by omega, ?_⟩
      have e : dl (d + 1 + 1) u = dl (d + 1) (u / 10) ++ [48 + ((u % 10 : Nat) : Int)] := rfl
      have e2 : Lib.decDigits u = Lib.decDigits (u / 10) ++ [UInt8.ofNat (48 + u % 10)] := by
        rw [Lib.decDigits, dif_neg hu]
      rw [e, e2, ← ih.2, List.map_append, show d + 1 + 1 - (Lib.nDigits (u / 10) + 1) = d + 1 - Lib.nDigits (u / 10) by omega, List.append_assoc]
      simp only [List.map_cons, List.map_nil, dig_toNat (u % 10) (by omega)]

end Go.Proofs.YtpdcjkiejglaiaaDoor.Q

/-
  'padded': a number's digits with zeros in front. It wants the library's table of powers of ten.
-/
namespace Go.Proofs.YtpdcjkiejglaiaaDoor.Q
open Go.RowKit Go.Proofs.YtpdcjkiejglaiaaDoorW.PrintWords Go.Proofs.YtpdcjkiejglaiaaDoorW.PrintLast Go.Proofs.YtpdcjkiejglaiaaDoorW.PrintMore
set_option linter.unusedVariables false
set_option linter.unusedSimpArgs false
attribute [local go_sem] max2_int min2_int max_two min_two

/-- the premise on the library's table -/
def Tab (w : World) : Prop := Lib.TabIs Tryd.prog w "internal/strconv.uint64pow10" .u64 Lib.pow10Tab
theorem Tab.below {w w' : World} (h : Tab w) (hb : Below w.heap.size w w') : Tab w' := by
  unfold Tab Lib.TabIs World.var? at *
  cases hg : Tryd.prog.globalNamed "internal/strconv.uint64pow10" with
  | none => simp [hg] at h
  | some g =>
    simp only [hg, Option.bind_some] at h ⊢
    have hlt : g < w.heap.size := by
      rcases Nat.lt_or_ge g w.heap.size with h' | h'
      · exact h'
      · simp [Array.getElem?_eq_none h'] at h
    rw [hb.block g hlt]
    exact h
theorem below_grow' (w : World) (k : Nat) (os : Array Obj) : Below w.heap.size w (Sort.grow (w.drewN k) os) := by
  refine ⟨rfl, rfl, rfl, ?_, fun i hi => ?_⟩
  · show w.heap.size ≤ (w.heap ++ os).size
    simp
  · show (w.heap ++ os)[i]? = w.heap[i]?
    rw [Array.getElem?_append, if_pos hi]

set_option maxHeartbeats 4000000 in
set_option maxRecDepth 100000 in
theorem padded_any (u d : Nat) (w : World) (T : Tab w) (h1 : 1 ≤ d) (h9 : d ≤ 9) (hu : u < 10 ^ d) :
    Calls Tryd.prog 44 #[.int .i64 (u : Int), .int .i64 (d : Int)] w fun e w' => e = .returned (.string (tx d u)) ∧ Below w.heap.size w w' := by
  have hp := pow_le h9
  obtain ⟨d', rfl⟩ : ∃ d', d = d' + 1 := ⟨d - 1, by omega⟩
  obtain ⟨hle, hpad⟩ := pad_dl d' u hu
  have hT := Aside0.mk T
  clear T
  obtain ⟨s, hs⟩ : ∃ s : ByteArray, s = ⟨(Lib.itoa (u : Int)).toArray⟩ := ⟨_, rfl⟩
  have hsz : s.size = Lib.nDigits u := by rw [hs, Lib.itoa_nonneg]; show (Lib.decDigits u).toArray.size = _; simp [Lib.decDigits_length]
  have HS := Aside0.mk hs
  have hu0 : -9223372036854775808 ≤ (u : Int) := by omega
  have hu1 : (u : Int) ≤ 9223372036854775807 := by omega
  obtain ⟨q, hq⟩ : ∃ q, q = d' + 1 - s.size := ⟨_, rfl⟩
  have em : wrap64 (((d' + 1 : Nat) : Int) - (s.size : Int)) = (q : Int) := by rw [wrap_id (by omega) (by omega)]; omega
  have ex : mx 0 (q : Int) = (q : Int) := by unfold mx; by_cases c : (0 : Int) < (q : Int); · rw [if_pos c]
                                             · rw [if_neg c]; omega
  have hrep : (⟨(Lib.repeatL (⟨#[48]⟩ : ByteArray).data.toList q).toArray⟩ : ByteArray) ++ s = tx (d' + 1) u := by
    apply li_inj
    rw [li_append, li_tx, ← hpad, rep_zero, li_tx, dl_zero, hq, hsz, hs, Lib.itoa_nonneg]
    simp [li]
  have hrz : (⟨(Lib.repeatL (⟨#[48]⟩ : ByteArray).data.toList q).toArray⟩ : ByteArray).size + s.size ≤ 9223372036854775807 := by rw [rep_zero, tx_size]; omega
  obtain ⟨z, hz⟩ : ∃ z, (⟨(Lib.repeatL (⟨#[48]⟩ : ByteArray).data.toList q).toArray⟩ : ByteArray) = z := ⟨_, rfl⟩
  rw [hz] at hrep hrz
  have HZ := Aside0.mk hz
  have HREP := Aside0.mk hrep
  clear hz hrep
  have HQ := Aside0.mk hq
  have HQ9 := Aside0.mk (show q ≤ 9 by omega)
  have HSZ := Aside0.mk hsz
  clear hs hpad
  go_enter Tryd.func44, Tryd.ntmps44
  have em' : wrap64 ((d' : Int) + 1 - (s.size : Int)) = (q : Int) := em
  go_wp2_with (first | (go_at_call 21; refine (Tryd.strconv_Itoa (u : Int) hu0 hu1 _ hT.out).mono ?_; rintro e w1 ⟨rfl, k1, os, rfl⟩; rw [← HS.out]; have HB1 := Aside0.mk (below_grow' w k1 os); generalize Sort.grow (w.drewN k1) os = w1 at HB1 ⊢))
  all_goals
    refine calls_of_args (args' := #[.string ⟨#[48]⟩, .int .i64 (q : Int)]) (by have h1 := HQ.out; have h2 := HSZ.out; congr 3; refine congrArg (Value.int IntKind.i64) ?_; omega) ?_
    refine (Tryd.strings_Repeat ⟨#[48]⟩ q w1 (by have := HQ9.out; omega) (by show 1 * q ≤ _; have := HQ9.out; omega)).mono ?_
    rintro e w2 ⟨rfl, hb⟩
    rw [HZ.out]
    go_wp2
    go_ret
    exact ⟨by rw [← HREP.out]; rfl, below_step HB1.out hb⟩

end Go.Proofs.YtpdcjkiejglaiaaDoor.Q

/-
  Rows of bytes made by a conversion of a string: their mark is that of a conversion's row, so the printed relation (mark 0) does not speak of them. The same relation for such rows, with the same movers.
-/
namespace Go.Proofs.YtpdcjkiejglaiaaDoor.Q
open Go.RowKit Go.Proofs.YtpdcjkiejglaiaaDoorW.PrintWords Go.Proofs.YtpdcjkiejglaiaaDoorW.PrintLast Go.Proofs.YtpdcjkiejglaiaaDoorW.PrintMore
set_option linter.unusedVariables false
set_option linter.unusedSimpArgs false

namespace Rm
/-- A row of bytes of a conversion. -/
def R (w : World) (base : Nat) (ok : Nat → Prop) (v : Value) (xs : List Int) : Prop :=
  (∀ k, v.ownBlock = some k → ok k) ∧ ∃ (g cap m : Nat) (zs : List Int), v = .slice (some ⟨g, 0, none⟩) xs.length cap ∧ base ≤ g ∧ xs.length ≤ cap ∧ xs.length ≤ 281474976710656 ∧ xs.length ≤ m ∧ w.heap[g]? = some (.cells (nums .u8 (xs ++ zs)).toArray 5 (m, m + 1))
section
variable {w w1 W : World} {base : Nat} {ok ok' : Nat → Prop} {v : Value} {xs : List Int} {g cap n : Nat}
theorem R_mono (h : R w base ok v xs) (hok : ∀ k, ok k → ok' k) : R w base ok' v xs := ⟨fun k hk => hok k (h.1 k hk), h.2⟩
theorem R_below (h : R w base ok v xs) (hb : Below w.heap.size w w1) : R w1 base ok v xs := by
  obtain ⟨h0, g, cap, m, zs, h1, h2, h3, h4, h5, h6⟩ := h
  exact ⟨h0, g, cap, m, zs, h1, h2, h3, h4, h5, (hb.block g (Array.getElem?_eq_some_iff.1 h6).1).trans h6⟩
theorem R_alloc (h : R w base ok v xs) (o : Obj) : R (w.alloc o) base ok v xs := R_below h (below_alloc (Below.refl _ _) o)
theorem R_drew (h : R w base ok v xs) : R w.drew base ok v xs := R_below h (below_drew (Below.refl _ _))
theorem R_drewN (h : R w base ok v xs) (m : Nat) : R (w.drewN m) base ok v xs := R_below h (pw_below_drewN (Below.refl _ _) m)
theorem R_slice (h : R w base ok v xs) : ∃ A c, v = .slice A xs.length c := by
  obtain ⟨h0, g, cap, m, zs, h1, _⟩ := h
  exact ⟨_, _, h1⟩
theorem R_at (h : R w base ok (.slice (some ⟨g, 0, none⟩) n cap) xs) (i : Nat) (hi : i < xs.length) : w.cell? ⟨g, i, none⟩ = some (.int .u8 (xs.getD i 0)) := by
  obtain ⟨h0, g', cap', m, zs, h1, h2, h3, h4, h5, h6⟩ := h
  injection h1 with e1 e2 e3
  injection e1 with e1
  injection e1 with e1
  subst e1
  rw [cell_of_row w g i _ 5 (m, m + 1) h6]
  simp [nums, List.getElem?_append, hi, List.getD_eq_getElem?_getD]
theorem R_reads' {A : Option Addr} {n c : Nat} (h : R w base ok (.slice A n c) xs) : n = xs.length ∧ n ≤ c ∧ (Kd.int .u8).C w A xs.length xs := by
  have h' := h
  obtain ⟨h0, g, cap, m, zs, h1, h2, h3, h4, h5, h6⟩ := h
  injection h1 with e1 e2 e3
  subst e1; subst e2; subst e3
  refine ⟨rfl, h3, Kd.C_of_reads (d := (0 : Int)) ⟨rfl, by omega, fun hn => ⟨_, rfl, fun j hj => ?_⟩⟩⟩
  rw [add_plain]
  have := R_at h' j hj
  simpa using this
theorem R_form (h : R w base ok v xs) (hp : 0 < xs.length) : ∃ g cap, v = .slice (some ⟨g, 0, none⟩) xs.length cap ∧ base ≤ g ∧ g < w.heap.size ∧ ∃ (cells : Array Value), ∃ m : Nat, w.heap[g]? = some (.cells cells 5 (m, m + 1)) := by
  obtain ⟨h0, g, cap, m, zs, h1, h2, h3, h4, h5, h6⟩ := h
  exact ⟨g, cap, h1, h2, (Array.getElem?_eq_some_iff.1 h6).1, _, m, h6⟩
theorem R_celln (d : Int) (h : R W base ok (.slice (some ⟨g, 0, none⟩) n cap) xs) (i : Int) (h0 : 0 ≤ i) (hi : i < n) : W.cell? ⟨g, i.toNat, none⟩ = some (.int .u8 (rdOf d xs i)) ∧ W.frozen? ⟨g, i.toNat, none⟩ = false := by
  obtain ⟨rfl, _⟩ := R_reads' h
  have hl : i.toNat < xs.length := by omega
  have hc := R_at h i.toNat hl
  obtain ⟨_, g', cap', m, zs, h1, h2, h3, h4, h5, h6⟩ := h
  injection h1 with e1 e2 e3
  injection e1 with e1
  injection e1 with e1
  subst e1
  refine ⟨?_, ?_⟩
  · rw [hc]; simp [rdOf, List.getD_eq_getElem?_getD, hl]
  · simp [World.frozen?, h6]
    omega
theorem R_putn (h : R W base ok (.slice (some ⟨g, 0, none⟩) n cap) xs) (i : Int) (x : Int) : R (W.setCell ⟨g, i.toNat, none⟩ (.int .u8 x)) base ok (.slice (some ⟨g, 0, none⟩) n cap) (xs.set i.toNat x) := by
  have hn := (R_reads' h).1
  obtain ⟨h0, g', cap', m, zs, h1, h2, h3, h4, h5, h6⟩ := h
  injection h1 with e1 e2 e3
  injection e1 with e1
  injection e1 with e1
  subst e1; subst e3
  by_cases hi : i.toNat < xs.length
  · refine ⟨h0, g, cap, m, zs, by rw [List.length_set, hn], h2, by rw [List.length_set]; exact h3, by rw [List.length_set]; exact h4, by rw [List.length_set]; exact h5, ?_⟩
    simp only [World.setCell, Array.getElem?_modify, h6]
    simp [nums, List.map_set, List.set_append, hi]
  · refine ⟨h0, g, cap, m, zs.set (i.toNat - xs.length) x, by rw [List.length_set, hn], h2, by rw [List.length_set]; exact h3, by rw [List.length_set]; exact h4, by rw [List.length_set]; exact h5, ?_⟩
    rw [List.set_eq_of_length_le (by omega)]
    simp only [World.setCell, Array.getElem?_modify, h6]
    simp [nums, List.map_set, List.set_append, hi]
end
end Rm

/-- the row that a conversion makes -/
theorem Rm_bytes (w : World) (base : Nat) (s : ByteArray) (hs : s.size ≤ 1000) (hb : base ≤ w.heap.size) :
    Rm.R (Lib.bytesWorld w 5 s) base (fun k => k = w.heap.size) (.slice (some ⟨w.heap.size, 0, none⟩) s.size (grownCap w s.size 0 5)) (li s) := by
  have hz := li_length s
  have hge := grownCap_ge w s.size 0 5
  refine ⟨fun k hk => by simpa [Value.ownBlock, eq_comm] using hk, w.heap.size, grownCap w s.size 0 5, (Lib.bytesCells w 5 s).size, List.replicate (grownCap w s.size 0 5 - s.size) 0, by rw [hz], hb, by rw [hz]; exact hge, by rw [hz]; omega, ?_, ?_⟩
  · rw [hz]
    simp [Lib.bytesCells]
  · rw [Lib.bytesWorld_at_new]
    congr 2
    apply Array.ext'
    simp [Lib.bytesCells, nums, li, Function.comp_def]

theorem Rm_holds {w : World} {base : Nat} {ok : Nat → Prop} {g n cap : Nat} {xs : List Int} (h : Rm.R w base ok (.slice (some ⟨g, 0, none⟩) n cap) xs) : Sort.Holds (Value.int .u8) w g 0 xs.toArray := by
  intro j hj
  have hj' : j < xs.length := by simpa using hj
  have hn := (Rm.R_reads' h).1
  have := Rm.R_celln 0 h (j : Int) (by omega) (by omega)
  rw [Int.toNat_natCast] at this
  rw [Nat.zero_add]
  refine ⟨this.1.trans ?_, this.2⟩
  simp [rdOf, List.getD_eq_getElem?_getD, hj', List.getElem!_eq_getElem?_getD]

end Go.Proofs.YtpdcjkiejglaiaaDoor.Q

/-
  The library contract of slices.Reverse (bytes) at this program, in plain words (printed by the shelf's own two commands).
-/
namespace Go.Proofs
open Go.Shelf
def Tryd.laysReverse_ren : Go.Shelf.Ren := ⟨fun | 35 => 39 | n => n, fun | 22 => 46 | 23 => 5 | 3 => 3 | 4 => 4 | 0 => 0 | n => n, fun | n => n⟩
theorem Tryd.laysReverse : Go.Proofs.SlLaysE.n35 Tryd.prog Tryd.laysReverse_ren := {
  mixed := by kernel_rfl
  f35 := ⟨Tryd.f39.name, by decide, Tryd.func39.trans (congrArg some (by kernel_rfl))⟩
  t0 := Tryd.underlying0
  a0 := Tryd.isAgg0
  z0 := Tryd.sizeOf0
  v0 := Tryd.zeroValue0
  t3 := Tryd.underlying3
  a3 := Tryd.isAgg3
  z3 := Tryd.sizeOf3
  v3 := Tryd.zeroValue3
  t4 := Tryd.underlying4
  a4 := Tryd.isAgg4
  z4 := Tryd.sizeOf4
  v4 := Tryd.zeroValue4
  t22 := Tryd.underlying46
  a22 := Tryd.isAgg46
  z22 := Tryd.sizeOf46
  v22 := Tryd.zeroValue46
  a23 := Tryd.isAgg5
  z23 := Tryd.sizeOf5 }
end Go.Proofs

/-
  'step': the next, or the last, order of a text's digits. Conditions: digits' bytes, at most 1000.
-/
namespace Go.Proofs.YtpdcjkiejglaiaaDoor.Q
open Go.RowKit Go.Proofs.YtpdcjkiejglaiaaDoorW.PrintWords Go.Proofs.YtpdcjkiejglaiaaDoorW.PrintLast Go.Proofs.YtpdcjkiejglaiaaDoorW.PrintMore
set_option linter.unusedVariables false
set_option linter.unusedSimpArgs false

/-- the one stands before the other, or, downward, behind it -/
def bef (dn : Bool) (x y : Int) : Bool := decide (x ≠ y) && (decide (x < y) != dn)

set_option maxHeartbeats 4000000 in
set_option maxRecDepth 100000 in
theorem before_any (dn : Bool) (x y : Int) (p : Nat) (w : World) (h : w.heap[p]? = some (.cells #[.bool dn] 4 (0, 0))) :
    Calls Tryd.prog 38 #[.int .u8 x, .int .u8 y, .pointer (some ⟨p, 0, none⟩)] w fun e w' => e = .returned (.bool (bef dn x y)) ∧ Drawn0 w w' := by
  have c1 := cell_of_one h
  clear h
  by_cases h : x = y
  · subst h
    have hb : bef dn x x = false := by simp [bef]
    rw [hb]
    go_enter Tryd.func38, Tryd.ntmps38
    go_wp2
    go_ret
    exact ⟨rfl, ⟨0, rfl⟩⟩
  · have hb : bef dn x y = (decide (x < y) != dn) := by simp [bef, h]
    rw [hb]
    have h0 : (x != y) = true := bne_iff_ne.mpr h
    have h1 : (x == y) = false := beq_eq_false_iff_ne.mpr h
    go_enter Tryd.func38, Tryd.ntmps38
    go_wp2
    go_ret
    exact ⟨rfl, ⟨0, rfl⟩⟩

/-- the last place that stands before its neighbour -/
def lastUp (b : Int → Int → Bool) (d : Array Int) : Nat → Option Nat
  | 0 => none
  | k + 1 => if b d[k]! d[k + 1]! = true then some k else lastUp b d k
/-- the last place ahead of which x stands -/
def lastBe (b : Int → Int → Bool) (d : Array Int) (x : Int) : Nat → Option Nat
  | 0 => none
  | k + 1 => if b x d[k]! = true then some k else lastBe b d x k
theorem lastUp_lt (b : Int → Int → Bool) (d : Array Int) (i : Nat) : ∀ k, lastUp b d k = some i → i < k ∧ b d[i]! d[i + 1]! = true
  | 0, h => by simp [lastUp] at h
  | k + 1, h => by
    simp only [lastUp] at h
    by_cases c : b d[k]! d[k + 1]! = true
    · rw [if_pos c] at h
      obtain rfl := Option.some.inj h
      exact ⟨by omega, c⟩
    · rw [if_neg c] at h
      have := lastUp_lt b d i k h
      exact ⟨by omega, this.2⟩
theorem lastBe_some (b : Int → Int → Bool) (d : Array Int) (x : Int) (m : Nat) (hm : b x d[m]! = true) : ∀ k, m < k → ∃ j, lastBe b d x k = some j ∧ m ≤ j ∧ j < k
  | 0, h => by omega
  | k + 1, h => by
    simp only [lastBe]
    by_cases c : b x d[k]! = true
    · rw [if_pos c]; exact ⟨k, rfl, by omega, by omega⟩
    · rw [if_neg c]
      have hne : m ≠ k := fun e => c (e ▸ hm)
      obtain ⟨j, h1, h2, h3⟩ := lastBe_some b d x m hm k (by omega)
      exact ⟨j, h1, h2, by omega⟩
/-- what stands from a place on, turned -/
def turnTail (d : Array Int) (i : Nat) : List Int := d.toList.take i ++ (d.toList.drop i).reverse
/-- the next order -/
def stepA (b : Int → Int → Bool) (d : Array Int) : Option (List Int) :=
  match lastUp b d (d.size - 1) with
  | none => none
  | some i => match lastBe b d d[i]! d.size with
    | none => none
    | some j => some (turnTail (Sort.swp d i j) (i + 1))
def outS : Option (List Int) → ByteArray
  | none => ⟨#[]⟩
  | some l => strOfNums l

/-- a row read from a place on -/
theorem holds_tail {w : World} {g : Nat} {d : Array Int} (h : Sort.Holds (Value.int .u8) w g 0 d) (i : Nat) (hi : i ≤ d.size) : Sort.Holds (Value.int .u8) w g i (d.toList.drop i).toArray := by
  intro j hj
  have hj' : j < d.size - i := by simpa using hj
  have := h (i + j) (by omega)
  rw [Nat.zero_add] at this
  refine ⟨this.1.trans ?_, this.2⟩
  congr 2
  rw [getElem!_pos d (i + j) (by omega), getElem!_pos _ j hj]
  simp
theorem cells_turned {w : World} {g m : Nat} {d : Array Int} (h : Sort.Holds (Value.int .u8) w g 0 d) (i : Nat) (hi : i ≤ d.size) (k : Nat) (hk : k < d.size) :
    (Sort.putRow (Value.int .u8) (Sort.ahead w m) g i (d.toList.drop i).reverse.toArray).cell? ⟨g, k, none⟩ = some (.int .u8 ((turnTail d i).getD k 0)) := by
  have ht := Sort.holds_ahead (Value.int .u8) w m g i _ (holds_tail h i hi)
  by_cases c : k < i
  · rw [Sort.cell?_putRow_other _ _ _ _ _ _ (.inr (.inl c))]
    have := (h k hk).1
    rw [Nat.zero_add] at this
    refine Eq.trans this ?_
    congr 2
    simp [turnTail, List.getD_eq_getElem?_getD, List.getElem?_append, c, hk, Nat.lt_min]
  · have := Sort.cell?_putRow (Value.int .u8) (Sort.ahead w m) g i (d.toList.drop i).toArray (d.toList.drop i).reverse.toArray ht (by simp) (k - i) (by simp; omega)
    rw [show i + (k - i) = k by omega] at this
    refine Eq.trans this ?_
    congr 2
    have e2 : k - i < (d.toList.drop i).reverse.length := by simp; omega
    simp only [turnTail, List.getD_eq_getElem?_getD]
    rw [List.getElem?_append_right (by simp; omega)]
    have e3 : k - (d.toList.take i).length = k - i := by simp; omega
    rw [e3, List.getElem?_eq_getElem e2, getElem!_pos _ (k - i) (by simpa using e2)]
    simp only [List.getElem_toArray, Option.getD_some]

end Go.Proofs.YtpdcjkiejglaiaaDoor.Q

/-
  'step', the walk.
-/
namespace Go.Proofs.YtpdcjkiejglaiaaDoor.Q
open Go.RowKit Go.Proofs.YtpdcjkiejglaiaaDoorW.PrintWords Go.Proofs.YtpdcjkiejglaiaaDoorW.PrintLast Go.Proofs.YtpdcjkiejglaiaaDoorW.PrintMore
set_option linter.unusedVariables false
set_option linter.unusedSimpArgs false

theorem st_old (w : World) (o : Obj) (k : Nat) (h : k < w.heap.size) : (w.alloc o).heap[k]? = w.heap[k]? := (below_alloc (Below.refl w.heap.size w) o).block k h
theorem box_then_bytes (w : World) (s : ByteArray) (dn : Bool) (hs : s.size ≤ 1000) :
    ∃ W1 cp, Sem.run Tryd.prog (convert 9 46 (.string s)) (w.alloc (.cells #[.bool dn] 4)) = .ok (.slice (some ⟨w.heap.size + 1, 0, none⟩) s.size cp) W1 ∧ s.size ≤ cp ∧ Below w.heap.size w W1 ∧
      W1.heap[w.heap.size]? = some (.cells #[.bool dn] 4 (0, 0)) ∧ Sort.Holds (Value.int .u8) W1 (w.heap.size + 1) 0 (li s).toArray := by
  have hz : (w.alloc (.cells #[.bool dn] 4)).heap.size = w.heap.size + 1 := by simp
  have hconv := Lib.run_convert_string_bytes (P := Tryd.prog) (w.alloc (.cells #[.bool dn] 4)) 9 46 5 s Tryd.underlying9 Tryd.underlying46 Tryd.underlying5
  rw [hz] at hconv
  have hR := Rm_bytes (w.alloc (.cells #[.bool dn] 4)) 0 s hs (Nat.zero_le _)
  rw [hz] at hR
  have hB := bytes_below (below_alloc (Below.refl w.heap.size w) (.cells #[.bool dn] 4)) (Nat.le_succ_of_le (Nat.le_refl _) |> fun _ => by rw [hz]; omega) 5 s
  have hB2 := bytes_below (Below.refl (w.alloc (.cells #[.bool dn] 4)).heap.size (w.alloc (.cells #[.bool dn] 4))) (Nat.le_refl _) 5 s
  refine ⟨_, _, hconv, grownCap_ge _ _ _ _, hB, ?_, Rm_holds hR⟩
  · rw [hB2.block _ (by rw [hz]; omega)]
    exact heap_alloc_new w _

theorem below_tail {B : Nat} {w0 w : World} {g o q : Nat} {d : Array Int} (h : Below B w0 w) (hg : B ≤ g) : Below B w0 (Sort.putRow (Value.int .u8) (Sort.ahead w q) g o d) :=
  ⟨h.os, h.tape, h.output, by simpa [Sort.putRow, Sort.mapBlock, Sort.ahead] using h.size, fun k hk => by
    rw [← h.block k hk]
    simp [Sort.putRow, Sort.mapBlock, Sort.ahead, Array.getElem?_modify, show g ≠ k by omega]⟩

set_option maxHeartbeats 8000000 in
set_option maxRecDepth 100000 in
theorem step_any (s : ByteArray) (dn : Bool) (w : World) (h1 : 1 ≤ s.size) (hn : s.size ≤ 1000) (R : Option (List Int)) (hR : stepA (bef dn) (li s).toArray = R) (r1 : ByteArray) (r2 : Bool) (e1 : outS R = r1) (e2 : R.isSome = r2) :
    Calls Tryd.prog 20 #[.string s, .bool dn] w fun e w' => e = .returned (.tuple #[.string r1, .bool r2]) ∧ Below w.heap.size w w' := by
  obtain ⟨W1, cp, hconv, hcap, hB, hbox, hH⟩ := box_then_bytes w s dn hn
  have hdz : (li s).toArray.size = s.size := by simp [li_length]
  generalize (li s).toArray = d at *
  obtain ⟨g, hg⟩ : ∃ g, g = w.heap.size + 1 := ⟨_, rfl⟩
  rw [← hg] at hconv hH
  unfold stepA at hR
  rw [hdz] at hR
  have HB := Aside0.mk hB
  have HBOX := Aside0.mk hbox
  have HH := Aside0.mk hH
  have HR := Aside0.mk hR
  have HG := Aside0.mk hg
  have H1 := Aside0.mk h1
  have HN := Aside0.mk hn
  have HDZ := Aside0.mk hdz
  have HC := Aside0.mk hcap
  have E1 := Aside0.mk e1
  have E2 := Aside0.mk e2
  clear hB hH hR hg h1 hn hdz e1 e2 hbox hcap
  obtain ⟨L, hL⟩ : ∃ L, lastUp (bef dn) d (s.size - 1) = L := ⟨_, rfl⟩
  have HL := Aside0.mk hL
  clear hL
  go_enter Tryd.func20, Tryd.ntmps20
  go_wp2
  clear hconv
  go_loopg [8] (s.size - 1) (fun gk v8 wr => ∃ (k : Nat) (v : Int), v8 = .int .i64 v ∧ Aside0 (v = (k : Int) - 1) ∧ Aside0 (gk = k) ∧ Aside0 (k ≤ s.size - 1) ∧ Aside0 (lastUp (bef dn) d k = L) ∧ Aside0 (∃ q, wr = W1.drewN q))
  case atStart => 
    have := H1.out
    have := HN.out
    exact ⟨s.size - 1, _, rfl, ⟨by first | omega | (rw [wrap_id (by omega) (by omega)]; omega)⟩, ⟨rfl⟩, ⟨Nat.le_refl _⟩, HL, ⟨0, rfl⟩⟩
  case round =>
    obtain ⟨k, v, rfl, hv, hgk, hk, hl, hw⟩ := hrel
    obtain ⟨q, rfl⟩ := hw.out
    clear hw
    cases k with
    | zero =>
      obtain rfl : v = -1 := by have := hv.out; omega
      go_wp2
      go_quiet (fail)
      go_wp2
      have hL0 : none = L := hl.out
      have hR := HR.out
      rw [HL.out, ← hL0] at hR
      have hR : none = R := hR
      obtain rfl : (⟨#[]⟩ : ByteArray) = r1 := by have := E1.out; rw [← hR] at this; exact this
      obtain rfl : false = r2 := by have := E2.out; rw [← hR] at this; exact this
      go_ret2
      exact ⟨rfl, pw_below_drewN HB.out _⟩
    | succ k =>
      obtain rfl : v = (k : Int) := by have := hv.out; omega
      have hk' : k + 1 < d.size := by have := hk.out; have := HDZ.out; have := H1.out; omega
      have ck := (HH.out k (by omega)).1
      have ck1 := (HH.out (k + 1) hk').1
      rw [Nat.zero_add] at ck ck1
      have b0 : (k : Int) < (s.size : Int) := by have := HDZ.out; omega
      have b1 : (k : Int) + 1 < (s.size : Int) := by have := HDZ.out; omega
      have b2 : wrap64 ((k : Int) + 1) = ((k + 1 : Nat) : Int) := by have := HN.out; have := HDZ.out; rw [wrap_id (by omega) (by omega)]; rfl
      have b3 : IntKind.i64.wrap ((k : Int) + 1) = ((k + 1 : Nat) : Int) := (i64_w _).trans b2
      have b4 : (0 : Int) ≤ (k : Int) + 1 := by omega
      have b5 : ((k : Int) + 1).toNat = k + 1 := by omega
      have b6 : k + 1 < s.size := by omega
      have bc := before_any dn d[k]! d[k + 1]! w.heap.size
      have hlu : lastUp (bef dn) d (k + 1) = if bef dn d[k]! d[k + 1]! = true then some k else lastUp (bef dn) d k := rfl
      generalize hx : d[k]! = x at *
      generalize hy : d[k + 1]! = y at *
      by_cases hb : bef dn x y = true
      · rw [if_pos hb, hl.out] at hlu
        subst hlu
        go_wp2
        go_quiet ((go_at_call 38; refine (bc (W1.drewN _) HBOX.out).mono ?_; rw [hb]; rintro e w' ⟨rfl, ⟨nd, rfl⟩⟩; first | exact ⟨rfl, _, (World.drewN_drewN _ _ _).trans (congrArg W1.drewN (Nat.add_assoc _ _ _))⟩ | exact ⟨rfl, _, World.drewN_drewN _ _ _⟩ | exact ⟨rfl, _, rfl⟩))
        go_wp2
        obtain ⟨j, hj, hj1, hj2⟩ := lastBe_some (bef dn) d x (k + 1) (by rw [hy]; exact hb) s.size b6
        have hR := HR.out
        rw [HL.out] at hR
        simp only [] at hR
        rw [hx, hj] at hR
        have hR : some (turnTail (Sort.swp d k j) (k + 1)) = R := hR
        have HR2 := Aside0.mk hR
        have HJ := Aside0.mk hj
        have HJ2 := Aside0.mk hj2
        have HX := Aside0.mk hx
        have HJ1 := Aside0.mk hj1
        clear hR hj hb hl hj1 hj2 HL HR hx hy hv hgk hk bc
        go_loopg [9] s.size (fun gk v9 wr => ∃ (m : Nat) (v : Int), v9 = .int .i64 v ∧ Aside0 (v = (m : Int) - 1) ∧ Aside0 (gk = m) ∧ Aside0 (m ≤ s.size) ∧ Aside0 (lastBe (bef dn) d x m = some j) ∧ Aside0 (∃ q, wr = W1.drewN q))
        case atStart =>
          have := H1.out
          have := HN.out
          exact ⟨s.size, _, rfl, ⟨by first | omega | (rw [wrap_id (by omega) (by omega)])⟩, ⟨rfl⟩, ⟨Nat.le_refl _⟩, HJ, ⟨_, rfl⟩⟩
        case round =>
          obtain ⟨m, v, rfl, hv, hgk, hm, hl, hw⟩ := hrel
          obtain ⟨q, rfl⟩ := hw.out
          clear hw
          cases m with
          | zero => exact absurd hl.out (by simp [lastBe])
          | succ m =>
            obtain rfl : v = (m : Int) := by have := hv.out; omega
            have cm := (HH.out m (by have := hm.out; have := HDZ.out; omega)).1
            rw [Nat.zero_add] at cm
            have d0 : (m : Int) < (s.size : Int) := by have := hm.out; omega
            have d1 : m < s.size := by omega
            have bc := before_any dn x d[m]! w.heap.size
            have hlb : lastBe (bef dn) d x (m + 1) = if bef dn x d[m]! = true then some m else lastBe (bef dn) d x m := rfl
            generalize hz : d[m]! = z at *
            by_cases hb : bef dn x z = true
            · rw [if_pos hb, hl.out] at hlb
              obtain rfl := Option.some.inj hlb
              clear hlb
              go_wp2
              go_quiet ((go_at_call 38; refine (bc (W1.drewN _) HBOX.out).mono ?_; rw [hb]; rintro e w' ⟨rfl, ⟨nd, rfl⟩⟩; first | exact ⟨rfl, _, (World.drewN_drewN _ _ _).trans (congrArg W1.drewN (Nat.add_assoc _ _ _))⟩ | exact ⟨rfl, _, World.drewN_drewN _ _ _⟩ | exact ⟨rfl, _, rfl⟩))
              go_wp2
              have fk := (HH.out k (by omega)).2
              have fm := (HH.out j (by have := hm.out; have := HDZ.out; omega)).2
              rw [Nat.zero_add] at fk fm
              rw [World.drewN_drewN]
              generalize hwr : W1.drewN _ = wr
              have A : Aside (wr = Sort.putRow (Value.int .u8) (Sort.ahead W1 _) g 0 d) := (hwr.symm.trans (Sort.putRow_self (Value.int .u8) (W1.drewN _) g 0 d HH.out).symm)
              replace ck : wr.cell? ⟨g, k, none⟩ = some (.int .u8 x) := by rw [← hwr]; exact ck
              replace cm : wr.cell? ⟨g, j, none⟩ = some (.int .u8 z) := by rw [← hwr]; exact cm
              replace fk : wr.frozen? ⟨g, k, none⟩ = false := by rw [← hwr]; exact fk
              replace fm : wr.frozen? ⟨g, j, none⟩ = false := by rw [← hwr]; exact fm
              have HZ := Aside0.mk hz
              have hkj : k < j := HJ1.out
              have hne : ¬ k = j := by omega
              have hne2 : ¬ j = k := by omega
              clear hwr ck1 bc hz hb
              go_region
              have hkd : k < d.size := by omega
              have hjd : j < d.size := by have := HJ2.out; have := HDZ.out; omega
              have hsw := swap_world (Value.int .u8) hkd hjd A.out (x := .int .u8 z) (y := .int .u8 x) (by rw [HZ.out]) (by rw [HX.out])
              rw [Nat.zero_add, Nat.zero_add] at hsw
              rw [hsw]
              have HH2a : ∀ N, Sort.Holds (Value.int .u8) (Sort.putRow (Value.int .u8) (Sort.ahead W1 N) g 0 (Sort.swp d k j)) g 0 (Sort.swp d k j) := fun N => Sort.holds_putRow (Value.int .u8) _ g 0 d (Sort.swp d k j) (Sort.holds_ahead _ _ _ _ _ _ HH.out) (by rw [Sort.size_swp])
              have HB2a : ∀ N, Below w.heap.size w (Sort.putRow (Value.int .u8) (Sort.ahead W1 N) g 0 (Sort.swp d k j)) := fun N => Lib.below_putRow (enc := Value.int .u8) (q := N) (d := Sort.swp d k j) HB.out (show w.heap.size ≤ g by have := HG.out; omega)
              clear hsw
              generalize hW2 : Sort.putRow (Value.int .u8) (Sort.ahead W1 _) g 0 (Sort.swp d k j) = W2
              have HH2 : Sort.Holds (Value.int .u8) W2 g 0 (Sort.swp d k j) := hW2 ▸ HH2a _
              have HB2 : Below w.heap.size w W2 := hW2 ▸ HB2a _
              clear HH2a HB2a hW2
              have hd2 : (Sort.swp d k j).size = s.size := by rw [Sort.size_swp]; exact HDZ.out
              generalize Sort.swp d k j = d2 at *
              have hrl : (d2.toList.drop (k + 1)).length = s.size - (k + 1) := by simp [hd2]
              have HC1 := AnyE.slices_Reverse Tryd.laysReverse (Value.int .u8) (fun _ => rfl) g (k + 1) (cp - (k + 1)) (d2.toList.drop (k + 1)) W2 (holds_tail HH2 (k + 1) (by omega)) (by rw [hrl]; have := HN.out; omega)
              rw [hrl] at HC1
              have HCV : ∀ n, Sem.run Tryd.prog (convert 46 9 (.slice (some ⟨g, 0, none⟩) s.size cp)) (Sort.putRow (Value.int .u8) (Sort.ahead W2 n) g (k + 1) (d2.toList.drop (k + 1)).reverse.toArray) = .ok (.string (strOfNums (turnTail d2 (k + 1)))) (Sort.putRow (Value.int .u8) (Sort.ahead W2 n) g (k + 1) (d2.toList.drop (k + 1)).reverse.toArray) := by
                intro n
                refine run_convert_bytes_arg _ 46 5 Tryd.underlying46 Tryd.underlying5 g 0 s.size cp (turnTail d2 (k + 1)) (by simp [turnTail]; omega) (fun i hi => ?_) 9 Tryd.underlying9
                rw [Nat.zero_add]
                exact cells_turned HH2 (k + 1) (by omega) i (by omega)
              have HC2 := Aside0.mk HC1
              have HB3 := Aside0.mk HB2
              have hcap : s.size ≤ cp := HC.out
              have hcap2 : k + 1 ≤ cp := by omega
              have hb7 : (k : Int) + 1 ≤ (s.size : Int) := by omega
              have hb8 : (k : Int) + 1 ≤ (cp : Int) := by omega
              clear HH2 HB2 hrl HC1 A ck cm fk fm
              go_wp2_with ((go_at_call 39; refine HC2.out.mono ?_; rintro e w5 ⟨rfl, n5, rfl⟩))
              obtain rfl : strOfNums (turnTail d2 (k + 1)) = r1 := by have := E1.out; rw [← HR2.out] at this; exact this
              obtain rfl : true = r2 := by have := E2.out; rw [← HR2.out] at this; exact this
              go_ret2
              exact ⟨rfl, below_tail HB3.out (show w.heap.size ≤ g by have := HG.out; omega)⟩
            · rw [if_neg hb, hl.out] at hlb
              rw [Bool.not_eq_true] at hb
              go_wp2
              go_quiet ((go_at_call 38; refine (bc (W1.drewN _) HBOX.out).mono ?_; rw [hb]; rintro e w' ⟨rfl, ⟨nd, rfl⟩⟩; first | exact ⟨rfl, _, (World.drewN_drewN _ _ _).trans (congrArg W1.drewN (Nat.add_assoc _ _ _))⟩ | exact ⟨rfl, _, World.drewN_drewN _ _ _⟩ | exact ⟨rfl, _, rfl⟩))
              go_wp2
              go_roundg m
              case measure => have := hgk.out; omega
              case rel =>
                have := hm.out
                have := HN.out
                exact ⟨m, _, rfl, ⟨by first | omega | (rw [wrap_id (by omega) (by omega)])⟩, ⟨rfl⟩, ⟨by omega⟩, ⟨hlb.symm⟩, ⟨_, rfl⟩⟩
      · rw [if_neg hb, hl.out] at hlu
        rw [Bool.not_eq_true] at hb
        go_wp2
        go_quiet ((go_at_call 38; refine (bc (W1.drewN _) HBOX.out).mono ?_; rw [hb]; rintro e w' ⟨rfl, ⟨nd, rfl⟩⟩; first | exact ⟨rfl, _, (World.drewN_drewN _ _ _).trans (congrArg W1.drewN (Nat.add_assoc _ _ _))⟩ | exact ⟨rfl, _, World.drewN_drewN _ _ _⟩ | exact ⟨rfl, _, rfl⟩))
        go_wp2
        go_roundg k
        case measure => have := hgk.out; omega
        case rel =>
          have := hk.out
          have := HN.out
          exact ⟨k, _, rfl, ⟨by first | omega | (rw [wrap_id (by omega) (by omega)])⟩, ⟨rfl⟩, ⟨by omega⟩, ⟨hlu.symm⟩, ⟨_, rfl⟩⟩

end Go.Proofs.YtpdcjkiejglaiaaDoor.Q

/- Laid by a program of this session (wip/tools/own_print.py) over the translation of this seat: contracts of the functions that the statement reaches. -/
namespace Go.Proofs.YtpdcjkiejglaiaaDoor.Q
open Go.RowKit Go.Proofs.YtpdcjkiejglaiaaDoorW.PrintWords Go.Proofs.YtpdcjkiejglaiaaDoorW.PrintLast Go.Proofs.YtpdcjkiejglaiaaDoorW.PrintMore
attribute [local go_sem] max2_int min2_int max_two min_two max_three min_three max_four min_four   -- for this text's walks alone
set_option linter.unusedVariables false
set_option linter.unusedSimpArgs false

/-! ### spec_l1Own: function 36 -/
def spec_l1Own.f (l0 : List Int) : Option (List Int) := (some (([] : List Int) : List Int)).bind fun y101 => (if y101.length + l0.length < 17592186044416 then (some (y101 ++ l0)) else (none))
set_option maxHeartbeats 8000000 in
set_option maxRecDepth 100000 in
theorem spec_l1Own.calls (A0 : Option Addr) (c0 : Nat) (l0 : List Int) (r : List Int) (w : World) (hr0 : Kd.C (Kd.int .i64) w A0 l0.length l0) (hc0 : l0.length ≤ c0) (h : spec_l1Own.f l0 = some r) :
    Calls Tryd.prog 36 #[.slice A0 l0.length c0] w fun e w' => ∃ v0_ : Value, e = .returned (v0_) ∧ Kd.R (Kd.int .i64) 3 w' w.heap.size (fun _ => True) v0_ r ∧ Below w.heap.size w w' := by
  have HR0 := Aside0.mk hr0
  have HC0 := Aside0.mk hc0
  clear hr0 hc0
  have HB := Aside0.mk (Below.refl w.heap.size w)
  have H : ((some (([] : List Int) : List Int)).bind fun y101 => (if y101.length + l0.length < 17592186044416 then (some (y101 ++ l0)) else (none))) = some r := h
  clear h
  obtain ⟨y101, hy101⟩ : ∃ y_ : List Int, y_ = (([] : List Int)) := ⟨_, rfl⟩
  replace H : (if y101.length + l0.length < 17592186044416 then (some (y101 ++ l0)) else (none)) = some r := by first | (rw [hy101]; with_reducible exact H) | (have H2_ := (Option.bind_some _ _).symm.trans H; rw [hy101]; with_reducible exact H2_) | (have H2_ := (Option.bind_some _ _).symm.trans H; with_reducible exact H2_) | with_reducible exact H | (rw [hy101]; exact H) | exact H
  have Ny101 := Aside0.mk hy101
  clear hy101
  by_cases c2 : y101.length + l0.length < 17592186044416
  · rw [if_pos c2] at H
    have LMc2 := Aside0.mk c2
    clear c2
    obtain ⟨y104, hy104⟩ : ∃ y_ : List Int, y_ = (y101 ++ l0) := ⟨_, rfl⟩
    replace H : (some y104) = some r := by first | (rw [hy104]; with_reducible exact H) | (have H2_ := (Option.bind_some _ _).symm.trans H; rw [hy104]; with_reducible exact H2_) | (have H2_ := (Option.bind_some _ _).symm.trans H; with_reducible exact H2_) | with_reducible exact H | (rw [hy104]; exact H) | exact H
    have Ny104 := Aside0.mk hy104
    clear hy104
    obtain rfl := Option.some.inj H
    go_enter Tryd.func36, Tryd.ntmps36
    go_wp2_with (first | ((with_reducible refine gate_dst (N := 3) rfl ?_); refine Kd.R_lit (Kd.int .i64) _ 3 ?hg (N := 3) ?hd (xs := ([] : List Int)) (inner := []) (ok := fun _ => True) (okp := fun _ => True) ?hr ?hp (fun _ hk => hk) trivial (Below.refl _ _) (Nat.le_refl _) (by simp) ?_; (case hd => rfl); (case hg => rfl); (case hr => first | (go_simp; done) | (go_simp; rfl)); (case hp => exact (Reps.none _ _)); intro v102 w3 ho4 hb hg_ hnew_; clear hg_ hnew_; (first | rw [← Ny101.out] at ho4 | (simp only [Int.reduceToNat] at ho4; rw [← Ny101.out] at ho4)); have n0_ := Aside0.mk (Kd.R_lower ho4 (below_size (by repeat (first | (with_reducible first | exact HB.out | apply below_alloc | apply pw_below_drewN | apply below_drew1) | exact HB.out)))); have n1_ := Aside0.mk (below_step (by repeat (first | (with_reducible first | exact HB.out | apply below_alloc | apply pw_below_drewN | apply below_drew1) | exact HB.out)) hb); clear HB; have HO103 := n0_; have HB := n1_; clear n0_ n1_; clear hb ho4) | ((with_reducible refine gate_builtin (b := .append) (xs := #[.tmp 3, .tmp 4]) rfl ?_); at_builtin; refine Kd.R_append_rows (Kd.int .i64) (w0 := w) w.heap.size rfl (.tmp 3) (.tmp 4) 29 3 (.int .i64 0) 8 rfl Tryd.underlying29 info3 rfl (by decide) (by omega) v102 y101 l0 _ _ _ (fun _ => True) (fun _ => False) rfl rfl ?aO ?aR (fun _ _ h => h) (fun _ h => h.elim) ?aF ?aB ?aS ?aL ?_; (case aR => repeat (first | exact (Kd.C_below HR0.out HB.out) | (with_reducible refine Kd.C_alloc ?_ _) | (with_reducible refine Kd.C_drewN ?_ _) | (with_reducible refine Kd.C_drew ?_))); (case aB => exact (by repeat (first | (with_reducible first | exact HB.out | apply below_alloc | apply pw_below_drewN | apply below_drew1) | exact HB.out))); (case aF => exact (fun _ _ => trivial)); (case aO => exact (by (with_reducible repeat (first | apply Kd.R_alloc | apply Kd.R_drewN | apply Kd.R_drew)); exact HO103.out)); (case aS => exact (below_size (by repeat (first | (with_reducible first | exact HB.out | apply below_alloc | apply pw_below_drewN | apply below_drew1) | exact HB.out)))); (case aL => have := LMc2.out; omega); intro v105 w5 ho hb hg hat; rw [← Ny104.out] at ho; have n0_ := Aside0.mk (hb); have n1_ := Aside0.mk (ho); clear HB; clear HO103; have HB := n0_; have HO106 := n1_; clear n0_ n1_; clear ho hb hg hat))
    go_ret
    exact ⟨_, by first | rfl | (simp [errW_none, errW_some] <;> rfl) | (simp [*, errW_none, errW_some] <;> rfl), by (with_reducible repeat (first | apply Kd.R_alloc | apply Kd.R_drewN | apply Kd.R_drew)); exact HO106.out, by repeat (first | (with_reducible first | exact HB.out | apply below_alloc | apply pw_below_drewN | apply below_drew1) | exact HB.out)⟩
  · rw [if_neg c2] at H
    exact absurd H (by simp)

end Go.Proofs.YtpdcjkiejglaiaaDoor.Q

/- Laid by a program of this session (wip/tools/own_print.py) over the translation of this seat: contracts of the functions that the statement reaches. -/
namespace Go.Proofs.YtpdcjkiejglaiaaDoor.Q
open Go.RowKit Go.Proofs.YtpdcjkiejglaiaaDoorW.PrintWords Go.Proofs.YtpdcjkiejglaiaaDoorW.PrintLast Go.Proofs.YtpdcjkiejglaiaaDoorW.PrintMore
attribute [local go_sem] max2_int min2_int max_two min_two max_three min_three max_four min_four   -- for this text's walks alone
set_option linter.unusedVariables false
set_option linter.unusedSimpArgs false

/-! ### spec_leTurn: function 16 -/
mutual
def spec_leTurn.l0 : Nat → Bool → List Int → Int → Option (List Int × Bool)
  | 0, _, _, _ => none
  | k + 1, x1, x6, x7 => if x7 ≥ 0 then (if x1 = true then (if 0 ≤ x7 then (if x7 < (x6.length : Int) then (if 0 ≤ (wrap64 (x7 + 1)) then (if (wrap64 (x7 + 1)) < (x6.length : Int) then (if (rd x6 x7) ≥ (rd x6 (wrap64 (x7 + 1))) then (spec_leTurn.j1 k x1 x6 x7 true) else (spec_leTurn.j1 k x1 x6 x7 false)) else (none)) else (none)) else (none)) else (none)) else (if 0 ≤ x7 then (if x7 < (x6.length : Int) then (if 0 ≤ (wrap64 (x7 + 1)) then (if (wrap64 (x7 + 1)) < (x6.length : Int) then (spec_leTurn.j1 k x1 x6 x7 (decide ((rd x6 x7) ≤ (rd x6 (wrap64 (x7 + 1)))))) else (none)) else (none)) else (none)) else (none))) else (some (([] : List Int), false))
def spec_leTurn.j1 : Nat → Bool → List Int → Int → Bool → Option (List Int × Bool)
  | 0, _, _, _, _ => none
  | k + 1, x1, x6, x7, x50 => if x50 = true then (spec_leTurn.l0 k x1 x6 (wrap64 (x7 - 1))) else (spec_leTurn.l1 k x1 x6 x7 (wrap64 ((x6.length : Int) - 1)))
def spec_leTurn.j3 : Nat → List Int → Int → Int → Option (List Int × Bool)
  | 0, _, _, _ => none
  | k + 1, x6, x7, x8 => if 0 ≤ x7 then (if x7 < (x6.length : Int) then (if 0 ≤ x8 then (if x8 < (x6.length : Int) then (spec_leTurn.l2 k ((x6.set (x7 : Int).toNat (rd x6 x8)).set (x8 : Int).toNat (rd x6 x7)) (wrap64 (x7 + 1)) (wrap64 ((x6.length : Int) - 1))) else (none)) else (none)) else (none)) else (none)
def spec_leTurn.l2 : Nat → List Int → Int → Int → Option (List Int × Bool)
  | 0, _, _, _ => none
  | k + 1, x6, x10, x11 => if x10 < x11 then (if 0 ≤ x10 then (if x10 < (x6.length : Int) then (if 0 ≤ x11 then (if x11 < (x6.length : Int) then (spec_leTurn.l2 k ((x6.set (x10 : Int).toNat (rd x6 x11)).set (x11 : Int).toNat (rd x6 x10)) (wrap64 (x10 + 1)) (wrap64 (x11 - 1))) else (none)) else (none)) else (none)) else (none)) else (some (x6, true))
def spec_leTurn.l1 : Nat → Bool → List Int → Int → Int → Option (List Int × Bool)
  | 0, _, _, _, _ => none
  | k + 1, x1, x6, x7, x8 => if x1 = true then (if 0 ≤ x8 then (if x8 < (x6.length : Int) then (if 0 ≤ x7 then (if x7 < (x6.length : Int) then (if (rd x6 x8) ≤ (rd x6 x7) then (spec_leTurn.l1 k x1 x6 x7 (wrap64 (x8 - 1))) else (spec_leTurn.j3 k x6 x7 x8)) else (none)) else (none)) else (none)) else (none)) else (if 0 ≤ x8 then (if x8 < (x6.length : Int) then (if 0 ≤ x7 then (if x7 < (x6.length : Int) then (if (rd x6 x8) ≥ (rd x6 x7) then (spec_leTurn.l1 k x1 x6 x7 (wrap64 (x8 - 1))) else (spec_leTurn.j3 k x6 x7 x8)) else (none)) else (none)) else (none)) else (none))
end
def spec_leTurn.f (k : Nat) (l0 : List Int) (a1 : Bool) : Option (List Int × Bool) := (spec_l1Own.f l0).bind fun t101 => (spec_leTurn.l0 k a1 t101 (wrap64 ((t101.length : Int) - 2)))
theorem spec_leTurn.mono_l : ∀ k, (∀ y0 y1 y2, LeO (spec_leTurn.l0 k y0 y1 y2) (spec_leTurn.l0 (k + 1) y0 y1 y2)) ∧ (∀ y0 y1 y2 y3, LeO (spec_leTurn.j1 k y0 y1 y2 y3) (spec_leTurn.j1 (k + 1) y0 y1 y2 y3)) ∧ (∀ y0 y1 y2, LeO (spec_leTurn.j3 k y0 y1 y2) (spec_leTurn.j3 (k + 1) y0 y1 y2)) ∧ (∀ y0 y1 y2, LeO (spec_leTurn.l2 k y0 y1 y2) (spec_leTurn.l2 (k + 1) y0 y1 y2)) ∧ (∀ y0 y1 y2 y3, LeO (spec_leTurn.l1 k y0 y1 y2 y3) (spec_leTurn.l1 (k + 1) y0 y1 y2 y3))
  | 0 => ⟨fun _ _ _ r h => by simp [spec_leTurn.l0] at h, fun _ _ _ _ r h => by simp [spec_leTurn.j1] at h, fun _ _ _ r h => by simp [spec_leTurn.j3] at h, fun _ _ _ r h => by simp [spec_leTurn.l2] at h, fun _ _ _ _ r h => by simp [spec_leTurn.l1] at h⟩
  | k + 1 => by
    obtain ⟨ih0, ih1, ih2, ih3, ih4⟩ := spec_leTurn.mono_l k
    refine ⟨?_, ?_, ?_, ?_, ?_⟩
    · intro y0 y1 y2
      unfold spec_leTurn.l0
      repeat' first
      | (with_reducible exact ih0 _ _ _)
      | (with_reducible exact ih1 _ _ _ _)
      | (with_reducible exact ih2 _ _ _)
      | (with_reducible exact ih3 _ _ _)
      | (with_reducible exact ih4 _ _ _ _)
      | (with_reducible exact LeO.refl _)
      | (with_reducible exact LeO.none _)
      | (with_reducible refine LeO.ite ?_ ?_)
      | (with_reducible refine LeO.bind ?_ (fun _ => ?_))
      | exact ih0 _ _ _
      | exact ih1 _ _ _ _
      | exact ih2 _ _ _
      | exact ih3 _ _ _
      | exact ih4 _ _ _ _
      | exact LeO.none _
      | refine LeO.ite ?_ ?_
      | refine LeO.bind ?_ (fun _ => ?_)
    · intro y0 y1 y2 y3
      unfold spec_leTurn.j1
      repeat' first
      | (with_reducible exact ih0 _ _ _)
      | (with_reducible exact ih1 _ _ _ _)
      | (with_reducible exact ih2 _ _ _)
      | (with_reducible exact ih3 _ _ _)
      | (with_reducible exact ih4 _ _ _ _)
      | (with_reducible exact LeO.refl _)
      | (with_reducible exact LeO.none _)
      | (with_reducible refine LeO.ite ?_ ?_)
      | (with_reducible refine LeO.bind ?_ (fun _ => ?_))
      | exact ih0 _ _ _
      | exact ih1 _ _ _ _
      | exact ih2 _ _ _
      | exact ih3 _ _ _
      | exact ih4 _ _ _ _
      | exact LeO.none _
      | refine LeO.ite ?_ ?_
      | refine LeO.bind ?_ (fun _ => ?_)
    · intro y0 y1 y2
      unfold spec_leTurn.j3
      repeat' first
      | (with_reducible exact ih0 _ _ _)
      | (with_reducible exact ih1 _ _ _ _)
      | (with_reducible exact ih2 _ _ _)
      | (with_reducible exact ih3 _ _ _)
      | (with_reducible exact ih4 _ _ _ _)
      | (with_reducible exact LeO.refl _)
      | (with_reducible exact LeO.none _)
      | (with_reducible refine LeO.ite ?_ ?_)
      | (with_reducible refine LeO.bind ?_ (fun _ => ?_))
      | exact ih0 _ _ _
      | exact ih1 _ _ _ _
      | exact ih2 _ _ _
      | exact ih3 _ _ _
      | exact ih4 _ _ _ _
      | exact LeO.none _
      | refine LeO.ite ?_ ?_
      | refine LeO.bind ?_ (fun _ => ?_)
    · intro y0 y1 y2
      unfold spec_leTurn.l2
      repeat' first
      | (with_reducible exact ih0 _ _ _)
      | (with_reducible exact ih1 _ _ _ _)
      | (with_reducible exact ih2 _ _ _)
      | (with_reducible exact ih3 _ _ _)
      | (with_reducible exact ih4 _ _ _ _)
      | (with_reducible exact LeO.refl _)
      | (with_reducible exact LeO.none _)
      | (with_reducible refine LeO.ite ?_ ?_)
      | (with_reducible refine LeO.bind ?_ (fun _ => ?_))
      | exact ih0 _ _ _
      | exact ih1 _ _ _ _
      | exact ih2 _ _ _
      | exact ih3 _ _ _
      | exact ih4 _ _ _ _
      | exact LeO.none _
      | refine LeO.ite ?_ ?_
      | refine LeO.bind ?_ (fun _ => ?_)
    · intro y0 y1 y2 y3
      unfold spec_leTurn.l1
      repeat' first
      | (with_reducible exact ih0 _ _ _)
      | (with_reducible exact ih1 _ _ _ _)
      | (with_reducible exact ih2 _ _ _)
      | (with_reducible exact ih3 _ _ _)
      | (with_reducible exact ih4 _ _ _ _)
      | (with_reducible exact LeO.refl _)
      | (with_reducible exact LeO.none _)
      | (with_reducible refine LeO.ite ?_ ?_)
      | (with_reducible refine LeO.bind ?_ (fun _ => ?_))
      | exact ih0 _ _ _
      | exact ih1 _ _ _ _
      | exact ih2 _ _ _
      | exact ih3 _ _ _
      | exact ih4 _ _ _ _
      | exact LeO.none _
      | refine LeO.ite ?_ ?_
      | refine LeO.bind ?_ (fun _ => ?_)
theorem spec_leTurn.mono : ∀ a0 a1 k, LeO (spec_leTurn.f k a0 a1) (spec_leTurn.f (k + 1) a0 a1) := by
  intro a0 a1 k
  obtain ⟨ih0, ih1, ih2, ih3, ih4⟩ := spec_leTurn.mono_l k
  unfold spec_leTurn.f
  repeat' first
      | (with_reducible exact ih0 _ _ _)
      | (with_reducible exact ih1 _ _ _ _)
      | (with_reducible exact ih2 _ _ _)
      | (with_reducible exact ih3 _ _ _)
      | (with_reducible exact ih4 _ _ _ _)
      | (with_reducible exact LeO.refl _)
      | (with_reducible exact LeO.none _)
      | (with_reducible refine LeO.ite ?_ ?_)
      | (with_reducible refine LeO.bind ?_ (fun _ => ?_))
      | exact ih0 _ _ _
      | exact ih1 _ _ _ _
      | exact ih2 _ _ _
      | exact ih3 _ _ _
      | exact ih4 _ _ _ _
      | exact LeO.none _
      | refine LeO.ite ?_ ?_
      | refine LeO.bind ?_ (fun _ => ?_)
set_option maxHeartbeats 8000000 in
set_option maxRecDepth 100000 in
theorem spec_leTurn.calls (k : Nat) (A0 : Option Addr) (c0 : Nat) (l0 : List Int) (a1 : Bool) (r1 : List Int) (r2 : Bool) (w : World) (hr0 : Kd.C (Kd.int .i64) w A0 l0.length l0) (hc0 : l0.length ≤ c0) (h : spec_leTurn.f k l0 a1 = some (r1, r2)) :
    Calls Tryd.prog 16 #[.slice A0 l0.length c0, .bool a1] w fun e w' => ∃ v0_ : Value, e = .returned (.tuple #[v0_, .bool r2]) ∧ Kd.R (Kd.int .i64) 3 w' w.heap.size (fun _ => True) v0_ r1 ∧ Below w.heap.size w w' := by
  have HR0 := Aside0.mk hr0
  have HC0 := Aside0.mk hc0
  clear hr0 hc0
  have HB := Aside0.mk (Below.refl w.heap.size w)
  have H : ((spec_l1Own.f l0).bind fun t101 => (spec_leTurn.l0 k a1 t101 (wrap64 ((t101.length : Int) - 2)))) = some (r1, r2) := h
  clear h
  replace H := Option.bind_eq_some_iff.mp H
  obtain ⟨t101, A30, H⟩ := H
  replace H : (spec_leTurn.l0 k a1 t101 (wrap64 ((t101.length : Int) - 2))) = some (r1, r2) := H
  have A3 := Aside0.mk A30
  clear A30
  have H' := Aside0.mk H
  clear H
  go_enter Tryd.func16, Tryd.ntmps16
  go_wp2_with (first | (go_at_call 36; (with_reducible refine (spec_l1Own.calls _ _ l0 t101 _ ?side1 ?side2 A3.out).mono ?_); (case side1 => repeat (first | exact HR0.out | (with_reducible refine Kd.C_alloc ?_ _) | (with_reducible refine Kd.C_drewN ?_ _) | (with_reducible refine Kd.C_drew ?_))); (case side2 => exact HC0.out); rintro e w4 ⟨v102, rfl, ho0, hb⟩; have n0_ := Aside0.mk (Kd.R_lower ho0 (below_size (by repeat (first | (with_reducible first | exact HB.out | apply below_alloc | apply pw_below_drewN | apply below_drew1) | exact HB.out)))); have n1_ := Aside0.mk (below_step (by repeat (first | (with_reducible first | exact HB.out | apply below_alloc | apply pw_below_drewN | apply below_drew1) | exact HB.out)) hb); clear HB; have HO103 := n0_; have HB := n1_; clear n0_ n1_; (try clear hb); (try clear hb2); (try clear hk); (try clear hi); (try clear ho0); obtain ⟨Ao5, co5, eo5⟩ := Kd.R_slice HO103.out; subst eo5))
  repeat (go_quiet (first | (go_at_call 36; (with_reducible refine (spec_l1Own.calls _ _ l0 t101 _ ?side1 ?side2 A3.out).mono ?_); (case side1 => repeat (first | exact HR0.out | (with_reducible refine Kd.C_alloc ?_ _) | (with_reducible refine Kd.C_drewN ?_ _) | (with_reducible refine Kd.C_drew ?_))); (case side2 => exact HC0.out); rintro e w4 ⟨v102, rfl, ho0, hb⟩; have n0_ := Aside0.mk (Kd.R_lower ho0 (below_size (by repeat (first | (with_reducible first | exact HB.out | apply below_alloc | apply pw_below_drewN | apply below_drew1) | exact HB.out)))); have n1_ := Aside0.mk (below_step (by repeat (first | (with_reducible first | exact HB.out | apply below_alloc | apply pw_below_drewN | apply below_drew1) | exact HB.out)) hb); clear HB; have HO103 := n0_; have HB := n1_; clear n0_ n1_; (try clear hb); (try clear hb2); (try clear hk); (try clear hi); (try clear ho0); obtain ⟨Ao5, co5, eo5⟩ := Kd.R_slice HO103.out; subst eo5)); try go_wp2_with (first | (go_at_call 36; (with_reducible refine (spec_l1Own.calls _ _ l0 t101 _ ?side1 ?side2 A3.out).mono ?_); (case side1 => repeat (first | exact HR0.out | (with_reducible refine Kd.C_alloc ?_ _) | (with_reducible refine Kd.C_drewN ?_ _) | (with_reducible refine Kd.C_drew ?_))); (case side2 => exact HC0.out); rintro e w4 ⟨v102, rfl, ho0, hb⟩; have n0_ := Aside0.mk (Kd.R_lower ho0 (below_size (by repeat (first | (with_reducible first | exact HB.out | apply below_alloc | apply pw_below_drewN | apply below_drew1) | exact HB.out)))); have n1_ := Aside0.mk (below_step (by repeat (first | (with_reducible first | exact HB.out | apply below_alloc | apply pw_below_drewN | apply below_drew1) | exact HB.out)) hb); clear HB; have HO103 := n0_; have HB := n1_; clear n0_ n1_; (try clear hb); (try clear hb2); (try clear hk); (try clear hi); (try clear ho0); obtain ⟨Ao5, co5, eo5⟩ := Kd.R_slice HO103.out; subst eo5)))
  go_loopg [7] k (fun kq v7 w' => ∃ (x6_1 : List Int) (x7_1 : Int), v7 = .int .i64 x7_1 ∧ Aside0 (spec_leTurn.l0 kq a1 x6_1 x7_1 = some (r1, r2)) ∧ Aside0 (kq ≤ k) ∧ Aside0 (Kd.R (Kd.int .i64) 3 w' w.heap.size (fun _ => True) (.slice Ao5 t101.length co5) x6_1) ∧ Aside0 (Below w.heap.size w w'))
  case atStart => exact ⟨(t101), (wrap64 ((t101.length : Int) - 2)), (by first | rfl | (simp; done) | (simp [*]; done)), H', ⟨Nat.le_refl _⟩, ⟨by (with_reducible repeat (first | apply Kd.R_alloc | apply Kd.R_drewN | apply Kd.R_drew)); exact HO103.out⟩, ⟨by repeat (first | (with_reducible first | exact HB.out | apply below_alloc | apply pw_below_drewN | apply below_drew1) | exact HB.out)⟩⟩
  case round =>
    clear H'
    try clear c1
    try clear p2
    obtain ⟨x6_1, x7_1, rfl, HA, HK1, HO_6, HB⟩ := hrel
    have hl6_1 := (Kd.R_reads' HO_6.out).1
    rw [hl6_1] at HO_6
    (try simp only [hl6_1])
    cases gk with
    | zero => exact absurd HA.out (by simp [spec_leTurn.l0])
    | succ k1 =>
      have H := HA.out
      clear HA
      simp only [spec_leTurn.l0] at H
      by_cases c6 : x7_1 ≥ 0
      · rw [if_pos c6] at H
        have c6b0 : decide (0 ≤ x7_1) = true := decide_eq_true c6
        clear c6
        have HC7 := Aside0.mk H
        clear H
        go_upto_region 5 with (fail)
        repeat (go_quiet (fail); go_upto_region 5 with (fail))
        go_cut [50] (fun v50 wc => ∃ (kq : Nat) (x50_6 : Bool), v50 = .bool x50_6 ∧ Aside0 (spec_leTurn.j1 kq a1 x6_1 x7_1 x50_6 = some (r1, r2)) ∧ Aside0 (kq ≤ k1) ∧ Aside0 (Kd.R (Kd.int .i64) 3 wc w.heap.size (fun _ => True) (.slice Ao5 x6_1.length co5) x6_1) ∧ Aside0 (Below w.heap.size w wc))
        case first =>
          have H := HC7.out
          clear HC7
          by_cases c8 : a1 = true
          · subst c8
            have H1 : (if 0 ≤ x7_1 then (if x7_1 < (x6_1.length : Int) then (if 0 ≤ (wrap64 (x7_1 + 1)) then (if (wrap64 (x7_1 + 1)) < (x6_1.length : Int) then (if (rd x6_1 x7_1) ≥ (rd x6_1 (wrap64 (x7_1 + 1))) then (spec_leTurn.j1 k1 true x6_1 x7_1 true) else (spec_leTurn.j1 k1 true x6_1 x7_1 false)) else (none)) else (none)) else (none)) else (none)) = some (r1, r2) := by rw [if_pos rfl] at H; exact H
            clear H
            have H := H1
            clear H1
            by_cases c9 : 0 ≤ x7_1
            · rw [if_pos c9] at H
              have c9b0 : decide (0 ≤ x7_1) = true := decide_eq_true c9
              clear c9
              (first | rw [c9b0] | (simp only [i64_w, i32_w]; rw [c9b0]) | skip)
              by_cases c10 : x7_1 < (x6_1.length : Int)
              · rw [if_pos c10] at H
                have c10b0 : decide (x7_1 < (x6_1.length : Int)) = true := decide_eq_true c10
                clear c10
                obtain ⟨ji11, hji11⟩ : ∃ j_ : Int, (wrap64 (x7_1 + 1)) = j_ := ⟨_, rfl⟩
                replace H : (if 0 ≤ (ji11) then (if (ji11) < (x6_1.length : Int) then (if (rd x6_1 x7_1) ≥ (rd x6_1 (ji11)) then (spec_leTurn.j1 k1 true x6_1 x7_1 true) else (spec_leTurn.j1 k1 true x6_1 x7_1 false)) else (none)) else (none)) = some (r1, r2) := by first | (rw [hji11] at H; exact H) | (simp only [hji11] at H ⊢; exact H)
                have hji11w : (IntKind.i64.wrap (x7_1 + 1)) = ji11 := (i64_w _).trans hji11
                by_cases c12 : 0 ≤ (ji11)
                · rw [if_pos c12] at H
                  have c12b0 : decide (0 ≤ (ji11)) = true := decide_eq_true c12
                  clear c12
                  by_cases c13 : (ji11) < (x6_1.length : Int)
                  · rw [if_pos c13] at H
                    have c13b0 : decide ((ji11) < (x6_1.length : Int)) = true := decide_eq_true c13
                    clear c13
                    by_cases c14 : (rd x6_1 x7_1) ≥ (rd x6_1 (ji11))
                    · rw [if_pos c14] at H
                      have c14b0 : decide ((rd x6_1 (ji11)) ≤ (rd x6_1 x7_1)) = true := decide_eq_true c14
                      clear c14
                      have H' := Aside0.mk H
                      clear H
                      have p104 : 0 ≤ (x7_1 : Int) := of_decide_eq_true (by first | (with_reducible assumption) | assumption)
                      have q104 : x7_1 < (x6_1.length : Int) := of_decide_eq_true (by first | (with_reducible assumption) | assumption)
                      obtain ⟨ad104, e104, hx104_0⟩ := Kd.at_int (Kd.R_reads' HO_6.out).2.2 x7_1 p104 q104
                      cases e104
                      replace p104 := eq_true p104
                      replace q104 := eq_true q104
                      have p105 : 0 ≤ ((ji11) : Int) := of_decide_eq_true (by first | (with_reducible assumption) | assumption)
                      have q105 : (ji11) < (x6_1.length : Int) := of_decide_eq_true (by first | (with_reducible assumption) | assumption)
                      obtain ⟨ad105, e105, hx105_0⟩ := Kd.at_int (Kd.R_reads' HO_6.out).2.2 (ji11) p105 q105
                      obtain rfl : ad104 = ad105 := (by injection e105)
                      replace p105 := eq_true p105
                      replace q105 := eq_true q105
                      go_wp2
                      repeat (go_quiet (fail); try go_wp2)
                      go_meet
                      case rel => exact ⟨_, (true), (by first | rfl | (simp; done) | (simp [*]; done)), H', ⟨by have := HK1.out; first | omega | exact Nat.le_refl _⟩, ⟨by (try simp only [hl6_1]); (with_reducible repeat (first | apply Kd.R_alloc | apply Kd.R_drewN | apply Kd.R_drew)); exact HO_6.out⟩, ⟨by repeat (first | (with_reducible first | exact HB.out | apply below_alloc | apply pw_below_drewN | apply below_drew1) | exact HB.out)⟩⟩
                    · rw [if_neg c14] at H
                      have c14b0 : decide ((rd x6_1 (ji11)) ≤ (rd x6_1 x7_1)) = false := decide_eq_false c14
                      clear c14
                      have H' := Aside0.mk H
                      clear H
                      have p104 : 0 ≤ (x7_1 : Int) := of_decide_eq_true (by first | (with_reducible assumption) | assumption)
                      have q104 : x7_1 < (x6_1.length : Int) := of_decide_eq_true (by first | (with_reducible assumption) | assumption)
                      obtain ⟨ad104, e104, hx104_0⟩ := Kd.at_int (Kd.R_reads' HO_6.out).2.2 x7_1 p104 q104
                      cases e104
                      replace p104 := eq_true p104
                      replace q104 := eq_true q104
                      have p105 : 0 ≤ ((ji11) : Int) := of_decide_eq_true (by first | (with_reducible assumption) | assumption)
                      have q105 : (ji11) < (x6_1.length : Int) := of_decide_eq_true (by first | (with_reducible assumption) | assumption)
                      obtain ⟨ad105, e105, hx105_0⟩ := Kd.at_int (Kd.R_reads' HO_6.out).2.2 (ji11) p105 q105
                      obtain rfl : ad104 = ad105 := (by injection e105)
                      replace p105 := eq_true p105
                      replace q105 := eq_true q105
                      go_wp2
                      repeat (go_quiet (fail); try go_wp2)
                      go_meet
                      case rel => exact ⟨_, (false), (by first | rfl | (simp; done) | (simp [*]; done)), H', ⟨by have := HK1.out; first | omega | exact Nat.le_refl _⟩, ⟨by (try simp only [hl6_1]); (with_reducible repeat (first | apply Kd.R_alloc | apply Kd.R_drewN | apply Kd.R_drew)); exact HO_6.out⟩, ⟨by repeat (first | (with_reducible first | exact HB.out | apply below_alloc | apply pw_below_drewN | apply below_drew1) | exact HB.out)⟩⟩
                  · rw [if_neg c13] at H
                    exact absurd H (by simp)
                · rw [if_neg c12] at H
                  exact absurd H (by simp)
              · rw [if_neg c10] at H
                exact absurd H (by simp)
            · rw [if_neg c9] at H
              exact absurd H (by simp)
          · replace c8 := Bool.eq_false_iff.mpr c8
            subst c8
            have H1 : (if 0 ≤ x7_1 then (if x7_1 < (x6_1.length : Int) then (if 0 ≤ (wrap64 (x7_1 + 1)) then (if (wrap64 (x7_1 + 1)) < (x6_1.length : Int) then (spec_leTurn.j1 k1 false x6_1 x7_1 (decide ((rd x6_1 x7_1) ≤ (rd x6_1 (wrap64 (x7_1 + 1)))))) else (none)) else (none)) else (none)) else (none)) = some (r1, r2) := by rw [if_neg (show ¬ (false = true) by decide)] at H; exact H
            clear H
            have H := H1
            clear H1
            by_cases c15 : 0 ≤ x7_1
            · rw [if_pos c15] at H
              have c15b0 : decide (0 ≤ x7_1) = true := decide_eq_true c15
              clear c15
              by_cases c16 : x7_1 < (x6_1.length : Int)
              · rw [if_pos c16] at H
                have c16b0 : decide (x7_1 < (x6_1.length : Int)) = true := decide_eq_true c16
                clear c16
                obtain ⟨ji17, hji17⟩ : ∃ j_ : Int, (wrap64 (x7_1 + 1)) = j_ := ⟨_, rfl⟩
                replace H : (if 0 ≤ (ji17) then (if (ji17) < (x6_1.length : Int) then (spec_leTurn.j1 k1 false x6_1 x7_1 (decide ((rd x6_1 x7_1) ≤ (rd x6_1 (ji17))))) else (none)) else (none)) = some (r1, r2) := by first | (rw [hji17] at H; exact H) | (simp only [hji17] at H ⊢; exact H)
                have hji17w : (IntKind.i64.wrap (x7_1 + 1)) = ji17 := (i64_w _).trans hji17
                by_cases c18 : 0 ≤ (ji17)
                · rw [if_pos c18] at H
                  have c18b0 : decide (0 ≤ (ji17)) = true := decide_eq_true c18
                  clear c18
                  by_cases c19 : (ji17) < (x6_1.length : Int)
                  · rw [if_pos c19] at H
                    have c19b0 : decide ((ji17) < (x6_1.length : Int)) = true := decide_eq_true c19
                    clear c19
                    have H' := Aside0.mk H
                    clear H
                    have p106 : 0 ≤ (x7_1 : Int) := of_decide_eq_true (by first | (with_reducible assumption) | assumption)
                    have q106 : x7_1 < (x6_1.length : Int) := of_decide_eq_true (by first | (with_reducible assumption) | assumption)
                    obtain ⟨ad106, e106, hx106_0⟩ := Kd.at_int (Kd.R_reads' HO_6.out).2.2 x7_1 p106 q106
                    cases e106
                    replace p106 := eq_true p106
                    replace q106 := eq_true q106
                    have p107 : 0 ≤ ((ji17) : Int) := of_decide_eq_true (by first | (with_reducible assumption) | assumption)
                    have q107 : (ji17) < (x6_1.length : Int) := of_decide_eq_true (by first | (with_reducible assumption) | assumption)
                    obtain ⟨ad107, e107, hx107_0⟩ := Kd.at_int (Kd.R_reads' HO_6.out).2.2 (ji17) p107 q107
                    obtain rfl : ad106 = ad107 := (by injection e107)
                    replace p107 := eq_true p107
                    replace q107 := eq_true q107
                    go_wp2
                    repeat (go_quiet (fail); try go_wp2)
                    go_meet
                    case rel => exact ⟨_, (decide ((rd x6_1 x7_1) ≤ (rd x6_1 (ji17)))), (by first | rfl | (simp; done) | (simp only [← hji17] <;> (first | rfl | simp)) | (simp [*]; done)), H', ⟨by have := HK1.out; first | omega | exact Nat.le_refl _⟩, ⟨by (try simp only [hl6_1]); (with_reducible repeat (first | apply Kd.R_alloc | apply Kd.R_drewN | apply Kd.R_drew)); exact HO_6.out⟩, ⟨by repeat (first | (with_reducible first | exact HB.out | apply below_alloc | apply pw_below_drewN | apply below_drew1) | exact HB.out)⟩⟩
                  · rw [if_neg c19] at H
                    exact absurd H (by simp)
                · rw [if_neg c18] at H
                  exact absurd H (by simp)
              · rw [if_neg c16] at H
                exact absurd H (by simp)
            · rw [if_neg c15] at H
              exact absurd H (by simp)
        case rest =>
          clear HC7
          try clear c1
          try clear p1
          try clear q1
          try clear hx1
          try clear p2
          try clear c6
          try clear c6b0
          try clear p6
          try clear c8
          try clear c9
          try clear c9b0
          try clear c10
          try clear c10b0
          try clear p10
          try clear q10
          try clear hx10
          try clear c12
          try clear c12b0
          try clear c13
          try clear c13b0
          try clear c14
          try clear c14b0
          try clear c15
          try clear c15b0
          try clear c16
          try clear c16b0
          try clear c18
          try clear c18b0
          try clear c19
          try clear c19b0
          try clear hx104_0
          try clear hx105_0
          try clear hx106_0
          try clear hx107_0
          try clear p104
          try clear p105
          try clear p106
          try clear p107
          try clear p2
          try clear q104
          try clear q105
          try clear q106
          try clear q107
          obtain ⟨kq, x50_6, rfl, HA, HJ6, HO_6, HB⟩ := hcut
          cases kq with
          | zero => exact absurd HA.out (by simp [spec_leTurn.j1])
          | succ kj6 =>
            have H := HA.out
            clear HA
            simp only [spec_leTurn.j1] at H
            by_cases c20 : x50_6 = true
            · subst c20
              have H1 : (spec_leTurn.l0 kj6 a1 x6_1 (wrap64 (x7_1 - 1))) = some (r1, r2) := by rw [if_pos rfl] at H; exact H
              clear H
              have H := H1
              clear H1
              have H' := Aside0.mk H
              clear H
              go_wp2
              repeat (go_quiet (fail); try go_wp2)
              (try simp only [← hl6_1])
              go_roundg kj6
              case measure => have := HK1.out; have := HJ6.out; omega
              case rel => exact ⟨(x6_1), (wrap64 (x7_1 - 1)), (by first | rfl | (simp; done) | (simp [*]; done)), H', ⟨by have := HK1.out; have := HJ6.out; omega⟩, ⟨by (try simp only [hl6_1]); (with_reducible repeat (first | apply Kd.R_alloc | apply Kd.R_drewN | apply Kd.R_drew)); exact HO_6.out⟩, ⟨by repeat (first | (with_reducible first | exact HB.out | apply below_alloc | apply pw_below_drewN | apply below_drew1) | exact HB.out)⟩⟩
            · replace c20 := Bool.eq_false_iff.mpr c20
              subst c20
              have H1 : (spec_leTurn.l1 kj6 a1 x6_1 x7_1 (wrap64 ((x6_1.length : Int) - 1))) = some (r1, r2) := by rw [if_neg (show ¬ (false = true) by decide)] at H; exact H
              clear H
              have H := H1
              clear H1
              have HC21 := Aside0.mk H
              clear H
              go_upto_block 2 with (fail)
              repeat (go_quiet (fail); go_upto_block 2 with (fail))
              go_cut [8] (fun v8 wc => ∃ (kq : Nat) (x8_20 : Int), v8 = .int .i64 x8_20 ∧ Aside0 (spec_leTurn.j3 kq x6_1 x7_1 x8_20 = some (r1, r2)) ∧ Aside0 (kq ≤ kj6) ∧ Aside0 (Kd.R (Kd.int .i64) 3 wc w.heap.size (fun _ => True) (.slice Ao5 x6_1.length co5) x6_1) ∧ Aside0 (Below w.heap.size w wc))
              case first =>
                have H := HC21.out
                clear HC21
                have H' := Aside0.mk H
                clear H
                go_wp2
                repeat (go_quiet (fail); try go_wp2)
                go_loopg [8] kj6 (fun kq v8 w' => ∃ (x8_3 : Int), v8 = .int .i64 x8_3 ∧ Aside0 (spec_leTurn.l1 kq a1 x6_1 x7_1 x8_3 = some (r1, r2)) ∧ Aside0 (kq ≤ kj6) ∧ Aside0 (Kd.R (Kd.int .i64) 3 w' w.heap.size (fun _ => True) (.slice Ao5 x6_1.length co5) x6_1) ∧ Aside0 (Below w.heap.size w w'))
                case atStart => exact ⟨(wrap64 ((x6_1.length : Int) - 1)), (by first | rfl | (simp; done) | (simp [*]; done)), H', ⟨Nat.le_refl _⟩, ⟨by (try simp only [hl6_1]); (with_reducible repeat (first | apply Kd.R_alloc | apply Kd.R_drewN | apply Kd.R_drew)); exact HO_6.out⟩, ⟨by repeat (first | (with_reducible first | exact HB.out | apply below_alloc | apply pw_below_drewN | apply below_drew1) | exact HB.out)⟩⟩
                case round =>
                  clear H'
                  try clear c1
                  try clear p1
                  try clear q1
                  try clear hx1
                  try clear c2
                  try clear p2
                  try clear c6
                  try clear c6b0
                  try clear p6
                  try clear c8
                  try clear c9
                  try clear c9b0
                  try clear c10
                  try clear c10b0
                  try clear p10
                  try clear q10
                  try clear hx10
                  try clear c12
                  try clear c12b0
                  try clear c13
                  try clear c13b0
                  try clear c14
                  try clear c14b0
                  try clear c15
                  try clear c15b0
                  try clear c16
                  try clear c16b0
                  try clear c18
                  try clear c18b0
                  try clear c19
                  try clear c19b0
                  try clear c20
                  try clear hx104_0
                  try clear hx105_0
                  try clear hx106_0
                  try clear hx107_0
                  try clear p1
                  try clear p10
                  try clear p104
                  try clear p105
                  try clear p106
                  try clear p107
                  try clear p2
                  try clear p6
                  try clear q1
                  try clear q10
                  try clear q104
                  try clear q105
                  try clear q106
                  try clear q107
                  obtain ⟨x8_3, rfl, HA, HK3, HO_6, HB⟩ := hrel
                  cases gk with
                  | zero => exact absurd HA.out (by simp [spec_leTurn.l1])
                  | succ k3 =>
                    have H := HA.out
                    clear HA
                    simp only [spec_leTurn.l1] at H
                    by_cases c22 : a1 = true
                    · subst c22
                      have H1 : (if 0 ≤ x8_3 then (if x8_3 < (x6_1.length : Int) then (if 0 ≤ x7_1 then (if x7_1 < (x6_1.length : Int) then (if (rd x6_1 x8_3) ≤ (rd x6_1 x7_1) then (spec_leTurn.l1 k3 true x6_1 x7_1 (wrap64 (x8_3 - 1))) else (spec_leTurn.j3 k3 x6_1 x7_1 x8_3)) else (none)) else (none)) else (none)) else (none)) = some (r1, r2) := by rw [if_pos rfl] at H; exact H
                      clear H
                      have H := H1
                      clear H1
                      by_cases c23 : 0 ≤ x8_3
                      · rw [if_pos c23] at H
                        have c23b0 : decide (0 ≤ x8_3) = true := decide_eq_true c23
                        clear c23
                        (first | rw [c23b0] | (simp only [i64_w, i32_w]; rw [c23b0]) | skip)
                        by_cases c24 : x8_3 < (x6_1.length : Int)
                        · rw [if_pos c24] at H
                          have c24b0 : decide (x8_3 < (x6_1.length : Int)) = true := decide_eq_true c24
                          clear c24
                          by_cases c25 : 0 ≤ x7_1
                          · rw [if_pos c25] at H
                            have c25b0 : decide (0 ≤ x7_1) = true := decide_eq_true c25
                            clear c25
                            by_cases c26 : x7_1 < (x6_1.length : Int)
                            · rw [if_pos c26] at H
                              have c26b0 : decide (x7_1 < (x6_1.length : Int)) = true := decide_eq_true c26
                              clear c26
                              by_cases c27 : (rd x6_1 x8_3) ≤ (rd x6_1 x7_1)
                              · rw [if_pos c27] at H
                                have c27b0 : decide ((rd x6_1 x8_3) ≤ (rd x6_1 x7_1)) = true := decide_eq_true c27
                                clear c27
                                have H' := Aside0.mk H
                                clear H
                                have p108 : 0 ≤ (x8_3 : Int) := of_decide_eq_true (by first | (with_reducible assumption) | assumption)
                                have q108 : x8_3 < (x6_1.length : Int) := of_decide_eq_true (by first | (with_reducible assumption) | assumption)
                                obtain ⟨ad108, e108, hx108_0⟩ := Kd.at_int (Kd.R_reads' HO_6.out).2.2 x8_3 p108 q108
                                cases e108
                                replace p108 := eq_true p108
                                replace q108 := eq_true q108
                                have p109 : 0 ≤ (x7_1 : Int) := of_decide_eq_true (by first | (with_reducible assumption) | assumption)
                                have q109 : x7_1 < (x6_1.length : Int) := of_decide_eq_true (by first | (with_reducible assumption) | assumption)
                                obtain ⟨ad109, e109, hx109_0⟩ := Kd.at_int (Kd.R_reads' HO_6.out).2.2 x7_1 p109 q109
                                obtain rfl : ad108 = ad109 := (by injection e109)
                                replace p109 := eq_true p109
                                replace q109 := eq_true q109
                                go_wp2
                                repeat (go_quiet (fail); try go_wp2)
                                go_roundg k3
                                case measure => have := HK1.out; have := HJ6.out; have := HK3.out; omega
                                case rel => exact ⟨(wrap64 (x8_3 - 1)), (by first | rfl | (simp; done) | (simp [*]; done)), H', ⟨by have := HK1.out; have := HJ6.out; have := HK3.out; omega⟩, ⟨by (try simp only [hl6_1]); (with_reducible repeat (first | apply Kd.R_alloc | apply Kd.R_drewN | apply Kd.R_drew)); exact HO_6.out⟩, ⟨by repeat (first | (with_reducible first | exact HB.out | apply below_alloc | apply pw_below_drewN | apply below_drew1) | exact HB.out)⟩⟩
                              · rw [if_neg c27] at H
                                have c27b0 : decide ((rd x6_1 x8_3) ≤ (rd x6_1 x7_1)) = false := decide_eq_false c27
                                clear c27
                                have H' := Aside0.mk H
                                clear H
                                have p108 : 0 ≤ (x8_3 : Int) := of_decide_eq_true (by first | (with_reducible assumption) | assumption)
                                have q108 : x8_3 < (x6_1.length : Int) := of_decide_eq_true (by first | (with_reducible assumption) | assumption)
                                obtain ⟨ad108, e108, hx108_0⟩ := Kd.at_int (Kd.R_reads' HO_6.out).2.2 x8_3 p108 q108
                                cases e108
                                replace p108 := eq_true p108
                                replace q108 := eq_true q108
                                have p109 : 0 ≤ (x7_1 : Int) := of_decide_eq_true (by first | (with_reducible assumption) | assumption)
                                have q109 : x7_1 < (x6_1.length : Int) := of_decide_eq_true (by first | (with_reducible assumption) | assumption)
                                obtain ⟨ad109, e109, hx109_0⟩ := Kd.at_int (Kd.R_reads' HO_6.out).2.2 x7_1 p109 q109
                                obtain rfl : ad108 = ad109 := (by injection e109)
                                replace p109 := eq_true p109
                                replace q109 := eq_true q109
                                go_wp2
                                repeat (go_quiet (fail); try go_wp2)
                                go_meet
                                case rel => exact ⟨_, (x8_3), (by first | rfl | (simp; done) | (simp [*]; done)), H', ⟨by have := HK1.out; have := HJ6.out; have := HK3.out; first | omega | exact Nat.le_refl _⟩, ⟨by (try simp only [hl6_1]); (with_reducible repeat (first | apply Kd.R_alloc | apply Kd.R_drewN | apply Kd.R_drew)); exact HO_6.out⟩, ⟨by repeat (first | (with_reducible first | exact HB.out | apply below_alloc | apply pw_below_drewN | apply below_drew1) | exact HB.out)⟩⟩
                            · rw [if_neg c26] at H
                              exact absurd H (by simp)
                          · rw [if_neg c25] at H
                            exact absurd H (by simp)
                        · rw [if_neg c24] at H
                          exact absurd H (by simp)
                      · rw [if_neg c23] at H
                        exact absurd H (by simp)
                    · replace c22 := Bool.eq_false_iff.mpr c22
                      subst c22
                      have H1 : (if 0 ≤ x8_3 then (if x8_3 < (x6_1.length : Int) then (if 0 ≤ x7_1 then (if x7_1 < (x6_1.length : Int) then (if (rd x6_1 x8_3) ≥ (rd x6_1 x7_1) then (spec_leTurn.l1 k3 false x6_1 x7_1 (wrap64 (x8_3 - 1))) else (spec_leTurn.j3 k3 x6_1 x7_1 x8_3)) else (none)) else (none)) else (none)) else (none)) = some (r1, r2) := by rw [if_neg (show ¬ (false = true) by decide)] at H; exact H
                      clear H
                      have H := H1
                      clear H1
                      by_cases c28 : 0 ≤ x8_3
                      · rw [if_pos c28] at H
                        have c28b0 : decide (0 ≤ x8_3) = true := decide_eq_true c28
                        clear c28
                        by_cases c29 : x8_3 < (x6_1.length : Int)
                        · rw [if_pos c29] at H
                          have c29b0 : decide (x8_3 < (x6_1.length : Int)) = true := decide_eq_true c29
                          clear c29
                          by_cases c30 : 0 ≤ x7_1
                          · rw [if_pos c30] at H
                            have c30b0 : decide (0 ≤ x7_1) = true := decide_eq_true c30
                            clear c30
                            by_cases c31 : x7_1 < (x6_1.length : Int)
                            · rw [if_pos c31] at H
                              have c31b0 : decide (x7_1 < (x6_1.length : Int)) = true := decide_eq_true c31
                              clear c31
                              by_cases c32 : (rd x6_1 x8_3) ≥ (rd x6_1 x7_1)
                              · rw [if_pos c32] at H
                                have c32b0 : decide ((rd x6_1 x7_1) ≤ (rd x6_1 x8_3)) = true := decide_eq_true c32
                                clear c32
                                have H' := Aside0.mk H
                                clear H
                                have p110 : 0 ≤ (x8_3 : Int) := of_decide_eq_true (by first | (with_reducible assumption) | assumption)
                                have q110 : x8_3 < (x6_1.length : Int) := of_decide_eq_true (by first | (with_reducible assumption) | assumption)
                                obtain ⟨ad110, e110, hx110_0⟩ := Kd.at_int (Kd.R_reads' HO_6.out).2.2 x8_3 p110 q110
                                cases e110
                                replace p110 := eq_true p110
                                replace q110 := eq_true q110
                                have p111 : 0 ≤ (x7_1 : Int) := of_decide_eq_true (by first | (with_reducible assumption) | assumption)
                                have q111 : x7_1 < (x6_1.length : Int) := of_decide_eq_true (by first | (with_reducible assumption) | assumption)
                                obtain ⟨ad111, e111, hx111_0⟩ := Kd.at_int (Kd.R_reads' HO_6.out).2.2 x7_1 p111 q111
                                obtain rfl : ad110 = ad111 := (by injection e111)
                                replace p111 := eq_true p111
                                replace q111 := eq_true q111
                                go_wp2
                                repeat (go_quiet (fail); try go_wp2)
                                go_roundg k3
                                case measure => have := HK1.out; have := HJ6.out; have := HK3.out; omega
                                case rel => exact ⟨(wrap64 (x8_3 - 1)), (by first | rfl | (simp; done) | (simp [*]; done)), H', ⟨by have := HK1.out; have := HJ6.out; have := HK3.out; omega⟩, ⟨by (try simp only [hl6_1]); (with_reducible repeat (first | apply Kd.R_alloc | apply Kd.R_drewN | apply Kd.R_drew)); exact HO_6.out⟩, ⟨by repeat (first | (with_reducible first | exact HB.out | apply below_alloc | apply pw_below_drewN | apply below_drew1) | exact HB.out)⟩⟩
                              · rw [if_neg c32] at H
                                have c32b0 : decide ((rd x6_1 x7_1) ≤ (rd x6_1 x8_3)) = false := decide_eq_false c32
                                clear c32
                                have H' := Aside0.mk H
                                clear H
                                have p110 : 0 ≤ (x8_3 : Int) := of_decide_eq_true (by first | (with_reducible assumption) | assumption)
                                have q110 : x8_3 < (x6_1.length : Int) := of_decide_eq_true (by first | (with_reducible assumption) | assumption)
                                obtain ⟨ad110, e110, hx110_0⟩ := Kd.at_int (Kd.R_reads' HO_6.out).2.2 x8_3 p110 q110
                                cases e110
                                replace p110 := eq_true p110
                                replace q110 := eq_true q110
                                have p111 : 0 ≤ (x7_1 : Int) := of_decide_eq_true (by first | (with_reducible assumption) | assumption)
                                have q111 : x7_1 < (x6_1.length : Int) := of_decide_eq_true (by first | (with_reducible assumption) | assumption)
                                obtain ⟨ad111, e111, hx111_0⟩ := Kd.at_int (Kd.R_reads' HO_6.out).2.2 x7_1 p111 q111
                                obtain rfl : ad110 = ad111 := (by injection e111)
                                replace p111 := eq_true p111
                                replace q111 := eq_true q111
                                go_wp2
                                repeat (go_quiet (fail); try go_wp2)
                                go_meet
                                case rel => exact ⟨_, (x8_3), (by first | rfl | (simp; done) | (simp [*]; done)), H', ⟨by have := HK1.out; have := HJ6.out; have := HK3.out; first | omega | exact Nat.le_refl _⟩, ⟨by (try simp only [hl6_1]); (with_reducible repeat (first | apply Kd.R_alloc | apply Kd.R_drewN | apply Kd.R_drew)); exact HO_6.out⟩, ⟨by repeat (first | (with_reducible first | exact HB.out | apply below_alloc | apply pw_below_drewN | apply below_drew1) | exact HB.out)⟩⟩
                            · rw [if_neg c31] at H
                              exact absurd H (by simp)
                          · rw [if_neg c30] at H
                            exact absurd H (by simp)
                        · rw [if_neg c29] at H
                          exact absurd H (by simp)
                      · rw [if_neg c28] at H
                        exact absurd H (by simp)
              case rest =>
                clear HC21
                try clear c1
                try clear p1
                try clear q1
                try clear hx1
                try clear c2
                try clear p2
                try clear c3
                try clear c6
                try clear c6b0
                try clear p6
                try clear c8
                try clear c9
                try clear c9b0
                try clear c10
                try clear c10b0
                try clear p10
                try clear q10
                try clear hx10
                try clear p11
                try clear q11
                try clear hx11
                try clear c12
                try clear c12b0
                try clear c13
                try clear c13b0
                try clear c14
                try clear c14b0
                try clear c15
                try clear c15b0
                try clear c16
                try clear c16b0
                try clear c18
                try clear c18b0
                try clear c19
                try clear c19b0
                try clear c20
                try clear c22
                try clear c23
                try clear c23b0
                try clear c24
                try clear c24b0
                try clear c25
                try clear c25b0
                try clear c26
                try clear c26b0
                try clear c27
                try clear c27b0
                try clear c28
                try clear c28b0
                try clear c29
                try clear c29b0
                try clear c30
                try clear c30b0
                try clear c31
                try clear c31b0
                try clear c32
                try clear c32b0
                try clear hx104_0
                try clear hx105_0
                try clear hx106_0
                try clear hx107_0
                try clear hx108_0
                try clear hx109_0
                try clear hx110_0
                try clear hx111_0
                try clear p1
                try clear p10
                try clear p104
                try clear p105
                try clear p106
                try clear p107
                try clear p108
                try clear p109
                try clear p110
                try clear p111
                try clear p2
                try clear p6
                try clear q1
                try clear q10
                try clear q104
                try clear q105
                try clear q106
                try clear q107
                try clear q108
                try clear q109
                try clear q110
                try clear q111
                obtain ⟨kq, x8_20, rfl, HA, HJ20, HO_6, HB⟩ := hcut
                cases kq with
                | zero => exact absurd HA.out (by simp [spec_leTurn.j3])
                | succ kj20 =>
                  have H := HA.out
                  clear HA
                  simp only [spec_leTurn.j3] at H
                  by_cases c33 : 0 ≤ x7_1
                  · rw [if_pos c33] at H
                    have c33b0 : decide (0 ≤ x7_1) = true := decide_eq_true c33
                    clear c33
                    by_cases c34 : x7_1 < (x6_1.length : Int)
                    · rw [if_pos c34] at H
                      have c34b0 : decide (x7_1 < (x6_1.length : Int)) = true := decide_eq_true c34
                      clear c34
                      by_cases c35 : 0 ≤ x8_20
                      · rw [if_pos c35] at H
                        have c35b0 : decide (0 ≤ x8_20) = true := decide_eq_true c35
                        clear c35
                        by_cases c36 : x8_20 < (x6_1.length : Int)
                        · rw [if_pos c36] at H
                          have c36b0 : decide (x8_20 < (x6_1.length : Int)) = true := decide_eq_true c36
                          clear c36
                          obtain ⟨y114, hy114⟩ : ∃ y_ : List Int, y_ = (x6_1.set (x7_1 : Int).toNat (rd x6_1 x8_20)) := ⟨_, rfl⟩
                          replace H : (spec_leTurn.l2 kj20 (y114.set (x8_20 : Int).toNat (rd x6_1 x7_1)) (wrap64 (x7_1 + 1)) (wrap64 ((x6_1.length : Int) - 1))) = some (r1, r2) := by first | (rw [hy114]; with_reducible exact H) | (have H2_ := (Option.bind_some _ _).symm.trans H; rw [hy114]; with_reducible exact H2_) | (have H2_ := (Option.bind_some _ _).symm.trans H; with_reducible exact H2_) | with_reducible exact H | (rw [hy114]; exact H) | exact H
                          have Ny114 := Aside0.mk hy114
                          clear hy114
                          obtain ⟨y115, hy115⟩ : ∃ y_ : List Int, y_ = (y114.set (x8_20 : Int).toNat (rd x6_1 x7_1)) := ⟨_, rfl⟩
                          replace H : (spec_leTurn.l2 kj20 y115 (wrap64 (x7_1 + 1)) (wrap64 ((x6_1.length : Int) - 1))) = some (r1, r2) := by first | (rw [hy115]; with_reducible exact H) | (have H2_ := (Option.bind_some _ _).symm.trans H; rw [hy115]; with_reducible exact H2_) | (have H2_ := (Option.bind_some _ _).symm.trans H; with_reducible exact H2_) | with_reducible exact H | (rw [hy115]; exact H) | exact H
                          have Ny115 := Aside0.mk hy115
                          clear hy115
                          have H' := Aside0.mk H
                          clear H
                          have p112 : 0 ≤ (x7_1 : Int) := of_decide_eq_true (by first | (with_reducible assumption) | assumption)
                          have q112 : x7_1 < (x6_1.length : Int) := of_decide_eq_true (by first | (with_reducible assumption) | assumption)
                          obtain ⟨ad112, e112, hx112_0⟩ := Kd.at_int (Kd.R_reads' HO_6.out).2.2 x7_1 p112 q112
                          cases e112
                          replace p112 := eq_true p112
                          replace q112 := eq_true q112
                          have p113 : 0 ≤ (x8_20 : Int) := of_decide_eq_true (by first | (with_reducible assumption) | assumption)
                          have q113 : x8_20 < (x6_1.length : Int) := of_decide_eq_true (by first | (with_reducible assumption) | assumption)
                          obtain ⟨ad113, e113, hx113_0⟩ := Kd.at_int (Kd.R_reads' HO_6.out).2.2 x8_20 p113 q113
                          obtain rfl : ad112 = ad113 := (by injection e113)
                          replace p113 := eq_true p113
                          replace q113 := eq_true q113
                          have p37 : 0 ≤ (x7_1 : Int) := of_decide_eq_true (by first | (with_reducible assumption) | assumption)
                          have q37 : (x7_1 : Int) < ((x6_1.length : Int) : Int) := of_decide_eq_true (by first | (with_reducible assumption) | assumption)
                          obtain ⟨go37, co37, eo37, gb37, gl37, cl37, HG37⟩ := Kd.R_form HO_6.out (by omega)
                          (first | cases eo37 | (injection eo37 with ea_ en_ ec_; (first | subst ea_ | (injection ea_ with ea_; subst ea_)); subst ec_; clear en_))
                          have GB37 := Aside0.mk gb37
                          have GG37 := Aside0.mk HG37
                          clear gb37 gl37 HG37
                          (first | simp only [add_plain] at hx112_0 | skip)
                          (first | simp only [add_plain] at hx113_0 | skip)
                          obtain ⟨hx37_0, hf37_0⟩ := Kd.R_celln 0 HO_6.out (x7_1 : Int) p37 q37
                          replace p37 := eq_true p37
                          replace q37 := eq_true q37
                          have HP39 := Kd.R_putg HO_6.out (x7_1 : Int) (rd x6_1 x8_20)
                          go_wp2_with (first | ((with_reducible refine gate_store (t := 3) (p := 93) rfl ?_); (try (rw [drewN_self wc]; generalize hq_ : World.drewN wc _ = wc; have n0_ := Aside0.mk (Kd.R_at hq_ HO_6.out); have n1_ := Aside0.mk (below_at hq_ HB.out); clear hq_ HO_6 HB; have HO_6 := n0_; have HB := n1_; clear n0_ n1_; (try (have HP39 := Kd.R_putg HO_6.out (x7_1 : Int) (rd x6_1 x8_20))))); refine store_event (t := 3) (p := 93) (v := ?vo_w40) (w1 := (wc.setCell ⟨go37, (x7_1 : Int).toNat, none⟩ (.int .i64 (rd x6_1 x8_20)))) ?hg ?ho ?hn ?hr ?_; (case ho => rfl); (case hg => rfl); (case hn => rfl); (case hr => first | (go_simp; done) | (go_simp; rfl)); intro w40 hw; have hg : wc.grownBy w40 (some go37) := (by rw [hw]; exact HP39.2); have hp_ : Kd.R (Kd.int .i64) 3 w40 w.heap.size (fun _ => True) (.slice (some ⟨go37, 0, none⟩) x6_1.length co5) y114 := (by rw [hw, Ny114.out]; exact HP39.1); clear HP39; have n0_ := Aside0.mk (hp_); have n1_ := Aside0.mk ((by rw [hw]; exact below_set (HB.out) GB37.out : Below w.heap.size w w40)); clear HO_6; clear HB; have HO_6 := n0_; have HB := n1_; clear n0_ n1_; clear hg hw hp_; have p38 : 0 ≤ (x8_20 : Int) := of_decide_eq_true (by first | (with_reducible assumption) | assumption); have q38 : (x8_20 : Int) < ((x6_1.length : Int) : Int) := of_decide_eq_true (by first | (with_reducible assumption) | assumption); obtain ⟨hx38_0, hf38_0⟩ := Kd.R_celln 0 HO_6.out (x8_20 : Int) p38 q38; replace p38 := eq_true p38; replace q38 := eq_true q38; obtain ⟨hy41_, hz41_⟩ := Kd.R_celln 0 HO_6.out (x8_20 : Int) (of_decide_eq_true (by first | (with_reducible assumption) | assumption)) (of_decide_eq_true (by first | (with_reducible assumption) | assumption)); have HP41 := Kd.R_putg HO_6.out (x8_20 : Int) (rd x6_1 x7_1)) | ((with_reducible refine gate_store (t := 3) (p := 97) rfl ?_); (try (rw [drewN_self w40]; generalize hq_ : World.drewN w40 _ = w40; have n0_ := Aside0.mk (Kd.R_at hq_ HO_6.out); have n1_ := Aside0.mk (below_at hq_ HB.out); clear hq_ HO_6 HB; have HO_6 := n0_; have HB := n1_; clear n0_ n1_; (try (obtain ⟨hy41_, hz41_⟩ := Kd.R_celln 0 HO_6.out (x8_20 : Int) (of_decide_eq_true (by first | (with_reducible assumption) | assumption)) (of_decide_eq_true (by first | (with_reducible assumption) | assumption)))); (try (have HP41 := Kd.R_putg HO_6.out (x8_20 : Int) (rd x6_1 x7_1))))); refine store_event (t := 3) (p := 97) (v := ?vo_w42) (w1 := (w40.setCell ⟨go37, (x8_20 : Int).toNat, none⟩ (.int .i64 (rd x6_1 x7_1)))) ?hg ?ho ?hn ?hr ?_; (case ho => rfl); (case hg => rfl); (case hn => rfl); (case hr => first | (go_simp; done) | (go_simp; rfl)); intro w42 hw; have hg : w40.grownBy w42 (some go37) := (by rw [hw]; exact HP41.2); have hp_ : Kd.R (Kd.int .i64) 3 w42 w.heap.size (fun _ => True) (.slice (some ⟨go37, 0, none⟩) x6_1.length co5) y115 := (by rw [hw, Ny115.out]; exact HP41.1); clear HP41; have n0_ := Aside0.mk (hp_); have n1_ := Aside0.mk ((by rw [hw]; exact below_set (HB.out) GB37.out : Below w.heap.size w w42)); clear HO_6; clear HB; have HO_6 := n0_; have HB := n1_; clear n0_ n1_; clear hg hw hp_))
                          repeat (go_quiet (first | ((with_reducible refine gate_store (t := 3) (p := 93) rfl ?_); (try (rw [drewN_self wc]; generalize hq_ : World.drewN wc _ = wc; have n0_ := Aside0.mk (Kd.R_at hq_ HO_6.out); have n1_ := Aside0.mk (below_at hq_ HB.out); clear hq_ HO_6 HB; have HO_6 := n0_; have HB := n1_; clear n0_ n1_; (try (have HP39 := Kd.R_putg HO_6.out (x7_1 : Int) (rd x6_1 x8_20))))); refine store_event (t := 3) (p := 93) (v := ?vo_w40) (w1 := (wc.setCell ⟨go37, (x7_1 : Int).toNat, none⟩ (.int .i64 (rd x6_1 x8_20)))) ?hg ?ho ?hn ?hr ?_; (case ho => rfl); (case hg => rfl); (case hn => rfl); (case hr => first | (go_simp; done) | (go_simp; rfl)); intro w40 hw; have hg : wc.grownBy w40 (some go37) := (by rw [hw]; exact HP39.2); have hp_ : Kd.R (Kd.int .i64) 3 w40 w.heap.size (fun _ => True) (.slice (some ⟨go37, 0, none⟩) x6_1.length co5) y114 := (by rw [hw, Ny114.out]; exact HP39.1); clear HP39; have n0_ := Aside0.mk (hp_); have n1_ := Aside0.mk ((by rw [hw]; exact below_set (HB.out) GB37.out : Below w.heap.size w w40)); clear HO_6; clear HB; have HO_6 := n0_; have HB := n1_; clear n0_ n1_; clear hg hw hp_; have p38 : 0 ≤ (x8_20 : Int) := of_decide_eq_true (by first | (with_reducible assumption) | assumption); have q38 : (x8_20 : Int) < ((x6_1.length : Int) : Int) := of_decide_eq_true (by first | (with_reducible assumption) | assumption); obtain ⟨hx38_0, hf38_0⟩ := Kd.R_celln 0 HO_6.out (x8_20 : Int) p38 q38; replace p38 := eq_true p38; replace q38 := eq_true q38; obtain ⟨hy41_, hz41_⟩ := Kd.R_celln 0 HO_6.out (x8_20 : Int) (of_decide_eq_true (by first | (with_reducible assumption) | assumption)) (of_decide_eq_true (by first | (with_reducible assumption) | assumption)); have HP41 := Kd.R_putg HO_6.out (x8_20 : Int) (rd x6_1 x7_1)) | ((with_reducible refine gate_store (t := 3) (p := 97) rfl ?_); (try (rw [drewN_self w40]; generalize hq_ : World.drewN w40 _ = w40; have n0_ := Aside0.mk (Kd.R_at hq_ HO_6.out); have n1_ := Aside0.mk (below_at hq_ HB.out); clear hq_ HO_6 HB; have HO_6 := n0_; have HB := n1_; clear n0_ n1_; (try (obtain ⟨hy41_, hz41_⟩ := Kd.R_celln 0 HO_6.out (x8_20 : Int) (of_decide_eq_true (by first | (with_reducible assumption) | assumption)) (of_decide_eq_true (by first | (with_reducible assumption) | assumption)))); (try (have HP41 := Kd.R_putg HO_6.out (x8_20 : Int) (rd x6_1 x7_1))))); refine store_event (t := 3) (p := 97) (v := ?vo_w42) (w1 := (w40.setCell ⟨go37, (x8_20 : Int).toNat, none⟩ (.int .i64 (rd x6_1 x7_1)))) ?hg ?ho ?hn ?hr ?_; (case ho => rfl); (case hg => rfl); (case hn => rfl); (case hr => first | (go_simp; done) | (go_simp; rfl)); intro w42 hw; have hg : w40.grownBy w42 (some go37) := (by rw [hw]; exact HP41.2); have hp_ : Kd.R (Kd.int .i64) 3 w42 w.heap.size (fun _ => True) (.slice (some ⟨go37, 0, none⟩) x6_1.length co5) y115 := (by rw [hw, Ny115.out]; exact HP41.1); clear HP41; have n0_ := Aside0.mk (hp_); have n1_ := Aside0.mk ((by rw [hw]; exact below_set (HB.out) GB37.out : Below w.heap.size w w42)); clear HO_6; clear HB; have HO_6 := n0_; have HB := n1_; clear n0_ n1_; clear hg hw hp_)); try go_wp2_with (first | ((with_reducible refine gate_store (t := 3) (p := 93) rfl ?_); (try (rw [drewN_self wc]; generalize hq_ : World.drewN wc _ = wc; have n0_ := Aside0.mk (Kd.R_at hq_ HO_6.out); have n1_ := Aside0.mk (below_at hq_ HB.out); clear hq_ HO_6 HB; have HO_6 := n0_; have HB := n1_; clear n0_ n1_; (try (have HP39 := Kd.R_putg HO_6.out (x7_1 : Int) (rd x6_1 x8_20))))); refine store_event (t := 3) (p := 93) (v := ?vo_w40) (w1 := (wc.setCell ⟨go37, (x7_1 : Int).toNat, none⟩ (.int .i64 (rd x6_1 x8_20)))) ?hg ?ho ?hn ?hr ?_; (case ho => rfl); (case hg => rfl); (case hn => rfl); (case hr => first | (go_simp; done) | (go_simp; rfl)); intro w40 hw; have hg : wc.grownBy w40 (some go37) := (by rw [hw]; exact HP39.2); have hp_ : Kd.R (Kd.int .i64) 3 w40 w.heap.size (fun _ => True) (.slice (some ⟨go37, 0, none⟩) x6_1.length co5) y114 := (by rw [hw, Ny114.out]; exact HP39.1); clear HP39; have n0_ := Aside0.mk (hp_); have n1_ := Aside0.mk ((by rw [hw]; exact below_set (HB.out) GB37.out : Below w.heap.size w w40)); clear HO_6; clear HB; have HO_6 := n0_; have HB := n1_; clear n0_ n1_; clear hg hw hp_; have p38 : 0 ≤ (x8_20 : Int) := of_decide_eq_true (by first | (with_reducible assumption) | assumption); have q38 : (x8_20 : Int) < ((x6_1.length : Int) : Int) := of_decide_eq_true (by first | (with_reducible assumption) | assumption); obtain ⟨hx38_0, hf38_0⟩ := Kd.R_celln 0 HO_6.out (x8_20 : Int) p38 q38; replace p38 := eq_true p38; replace q38 := eq_true q38; obtain ⟨hy41_, hz41_⟩ := Kd.R_celln 0 HO_6.out (x8_20 : Int) (of_decide_eq_true (by first | (with_reducible assumption) | assumption)) (of_decide_eq_true (by first | (with_reducible assumption) | assumption)); have HP41 := Kd.R_putg HO_6.out (x8_20 : Int) (rd x6_1 x7_1)) | ((with_reducible refine gate_store (t := 3) (p := 97) rfl ?_); (try (rw [drewN_self w40]; generalize hq_ : World.drewN w40 _ = w40; have n0_ := Aside0.mk (Kd.R_at hq_ HO_6.out); have n1_ := Aside0.mk (below_at hq_ HB.out); clear hq_ HO_6 HB; have HO_6 := n0_; have HB := n1_; clear n0_ n1_; (try (obtain ⟨hy41_, hz41_⟩ := Kd.R_celln 0 HO_6.out (x8_20 : Int) (of_decide_eq_true (by first | (with_reducible assumption) | assumption)) (of_decide_eq_true (by first | (with_reducible assumption) | assumption)))); (try (have HP41 := Kd.R_putg HO_6.out (x8_20 : Int) (rd x6_1 x7_1))))); refine store_event (t := 3) (p := 97) (v := ?vo_w42) (w1 := (w40.setCell ⟨go37, (x8_20 : Int).toNat, none⟩ (.int .i64 (rd x6_1 x7_1)))) ?hg ?ho ?hn ?hr ?_; (case ho => rfl); (case hg => rfl); (case hn => rfl); (case hr => first | (go_simp; done) | (go_simp; rfl)); intro w42 hw; have hg : w40.grownBy w42 (some go37) := (by rw [hw]; exact HP41.2); have hp_ : Kd.R (Kd.int .i64) 3 w42 w.heap.size (fun _ => True) (.slice (some ⟨go37, 0, none⟩) x6_1.length co5) y115 := (by rw [hw, Ny115.out]; exact HP41.1); clear HP41; have n0_ := Aside0.mk (hp_); have n1_ := Aside0.mk ((by rw [hw]; exact below_set (HB.out) GB37.out : Below w.heap.size w w42)); clear HO_6; clear HB; have HO_6 := n0_; have HB := n1_; clear n0_ n1_; clear hg hw hp_)))
                          go_loopg [10, 11] kj20 (fun kq v10 v11 w' => ∃ (x6_4 : List Int) (x10_4 : Int) (x11_4 : Int), v10 = .int .i64 x10_4 ∧ v11 = .int .i64 x11_4 ∧ Aside0 (spec_leTurn.l2 kq x6_4 x10_4 x11_4 = some (r1, r2)) ∧ Aside0 (kq ≤ kj20) ∧ Aside0 (Kd.R (Kd.int .i64) 3 w' w.heap.size (fun _ => True) (.slice (some ⟨go37, 0, none⟩) x6_1.length co5) x6_4) ∧ Aside0 (Below w.heap.size w w'))
                          case atStart => exact ⟨(y115), (wrap64 (x7_1 + 1)), (wrap64 ((x6_1.length : Int) - 1)), (by first | rfl | (simp; done) | (simp [*]; done)), (by first | rfl | (simp; done) | (simp [*]; done)), H', ⟨Nat.le_refl _⟩, ⟨by (try simp only [hl6_1]); (with_reducible repeat (first | apply Kd.R_alloc | apply Kd.R_drewN | apply Kd.R_drew)); exact HO_6.out⟩, ⟨by repeat (first | (with_reducible first | exact HB.out | apply below_alloc | apply pw_below_drewN | apply below_drew1) | exact HB.out)⟩⟩
                          case round =>
                            clear H'
                            try clear c1
                            try clear p1
                            try clear q1
                            try clear hx1
                            try clear c2
                            try clear p2
                            try clear c3
                            try clear p3
                            try clear q3
                            try clear hx3
                            try clear hf3
                            try clear c6
                            try clear c6b0
                            try clear p6
                            try clear c8
                            try clear c9
                            try clear c9b0
                            try clear c10
                            try clear c10b0
                            try clear p10
                            try clear q10
                            try clear hx10
                            try clear p11
                            try clear q11
                            try clear hx11
                            try clear c12
                            try clear c12b0
                            try clear c13
                            try clear c13b0
                            try clear c14
                            try clear c14b0
                            try clear c15
                            try clear c15b0
                            try clear c16
                            try clear c16b0
                            try clear c18
                            try clear c18b0
                            try clear c19
                            try clear c19b0
                            try clear c20
                            try clear c22
                            try clear c23
                            try clear c23b0
                            try clear c24
                            try clear c24b0
                            try clear c25
                            try clear c25b0
                            try clear c26
                            try clear c26b0
                            try clear c27
                            try clear c27b0
                            try clear c28
                            try clear c28b0
                            try clear c29
                            try clear c29b0
                            try clear c30
                            try clear c30b0
                            try clear c31
                            try clear c31b0
                            try clear c32
                            try clear c32b0
                            try clear c33
                            try clear c33b0
                            try clear c34
                            try clear c34b0
                            try clear c35
                            try clear c35b0
                            try clear c36
                            try clear c36b0
                            try clear p37
                            try clear q37
                            try clear hx37
                            try clear hf37
                            try clear p38
                            try clear q38
                            try clear hx38
                            try clear hf38
                            try clear hx104_0
                            try clear hx105_0
                            try clear hx106_0
                            try clear hx107_0
                            try clear hx108_0
                            try clear hx109_0
                            try clear hx110_0
                            try clear hx111_0
                            try clear hx112_0
                            try clear hx113_0
                            try clear hx37_0
                            try clear hx38_0
                            try clear p1
                            try clear p10
                            try clear p104
                            try clear p105
                            try clear p106
                            try clear p107
                            try clear p108
                            try clear p109
                            try clear p11
                            try clear p110
                            try clear p111
                            try clear p112
                            try clear p113
                            try clear p2
                            try clear p37
                            try clear p38
                            try clear p6
                            try clear q1
                            try clear q10
                            try clear q104
                            try clear q105
                            try clear q106
                            try clear q107
                            try clear q108
                            try clear q109
                            try clear q11
                            try clear q110
                            try clear q111
                            try clear q112
                            try clear q113
                            try clear q37
                            try clear q38
                            obtain ⟨x6_4, x10_4, x11_4, rfl, rfl, HA, HK4, HO_6, HB⟩ := hrel
                            have hl6_4 := (Kd.R_reads' HO_6.out).1
                            rw [hl6_4] at HO_6
                            (try simp only [hl6_4])
                            cases gk with
                            | zero => exact absurd HA.out (by simp [spec_leTurn.l2])
                            | succ k4 =>
                              have H := HA.out
                              clear HA
                              simp only [spec_leTurn.l2] at H
                              by_cases c43 : x10_4 < x11_4
                              · rw [if_pos c43] at H
                                have c43b0 : decide (x10_4 < x11_4) = true := decide_eq_true c43
                                clear c43
                                by_cases c44 : 0 ≤ x10_4
                                · rw [if_pos c44] at H
                                  have c44b0 : decide (0 ≤ x10_4) = true := decide_eq_true c44
                                  clear c44
                                  by_cases c45 : x10_4 < (x6_4.length : Int)
                                  · rw [if_pos c45] at H
                                    have c45b0 : decide (x10_4 < (x6_4.length : Int)) = true := decide_eq_true c45
                                    clear c45
                                    by_cases c46 : 0 ≤ x11_4
                                    · rw [if_pos c46] at H
                                      have c46b0 : decide (0 ≤ x11_4) = true := decide_eq_true c46
                                      clear c46
                                      by_cases c47 : x11_4 < (x6_4.length : Int)
                                      · rw [if_pos c47] at H
                                        have c47b0 : decide (x11_4 < (x6_4.length : Int)) = true := decide_eq_true c47
                                        clear c47
                                        obtain ⟨y118, hy118⟩ : ∃ y_ : List Int, y_ = (x6_4.set (x10_4 : Int).toNat (rd x6_4 x11_4)) := ⟨_, rfl⟩
                                        replace H : (spec_leTurn.l2 k4 (y118.set (x11_4 : Int).toNat (rd x6_4 x10_4)) (wrap64 (x10_4 + 1)) (wrap64 (x11_4 - 1))) = some (r1, r2) := by first | (rw [hy118]; with_reducible exact H) | (have H2_ := (Option.bind_some _ _).symm.trans H; rw [hy118]; with_reducible exact H2_) | (have H2_ := (Option.bind_some _ _).symm.trans H; with_reducible exact H2_) | with_reducible exact H | (rw [hy118]; exact H) | exact H
                                        have Ny118 := Aside0.mk hy118
                                        clear hy118
                                        obtain ⟨y119, hy119⟩ : ∃ y_ : List Int, y_ = (y118.set (x11_4 : Int).toNat (rd x6_4 x10_4)) := ⟨_, rfl⟩
                                        replace H : (spec_leTurn.l2 k4 y119 (wrap64 (x10_4 + 1)) (wrap64 (x11_4 - 1))) = some (r1, r2) := by first | (rw [hy119]; with_reducible exact H) | (have H2_ := (Option.bind_some _ _).symm.trans H; rw [hy119]; with_reducible exact H2_) | (have H2_ := (Option.bind_some _ _).symm.trans H; with_reducible exact H2_) | with_reducible exact H | (rw [hy119]; exact H) | exact H
                                        have Ny119 := Aside0.mk hy119
                                        clear hy119
                                        have H' := Aside0.mk H
                                        clear H
                                        have p116 : 0 ≤ (x10_4 : Int) := of_decide_eq_true (by first | (with_reducible assumption) | assumption)
                                        have q116 : x10_4 < (x6_4.length : Int) := of_decide_eq_true (by first | (with_reducible assumption) | assumption)
                                        obtain ⟨ad116, e116, hx116_0⟩ := Kd.at_int (Kd.R_reads' HO_6.out).2.2 x10_4 p116 q116
                                        obtain rfl : (⟨go37, 0, none⟩ : Addr) = ad116 := (by injection e116)
                                        (first | simp only [add_plain] at hx116_0 | simp only [add_at] at hx116_0 | simp only [Addr.add, Nat.zero_add] at hx116_0 | skip)
                                        replace p116 := eq_true p116
                                        replace q116 := eq_true q116
                                        have p117 : 0 ≤ (x11_4 : Int) := of_decide_eq_true (by first | (with_reducible assumption) | assumption)
                                        have q117 : x11_4 < (x6_4.length : Int) := of_decide_eq_true (by first | (with_reducible assumption) | assumption)
                                        obtain ⟨ad117, e117, hx117_0⟩ := Kd.at_int (Kd.R_reads' HO_6.out).2.2 x11_4 p117 q117
                                        obtain rfl : (⟨go37, 0, none⟩ : Addr) = ad117 := (by injection e117)
                                        (first | simp only [add_plain] at hx117_0 | simp only [add_at] at hx117_0 | simp only [Addr.add, Nat.zero_add] at hx117_0 | skip)
                                        replace p117 := eq_true p117
                                        replace q117 := eq_true q117
                                        have p48 : 0 ≤ (x10_4 : Int) := of_decide_eq_true (by first | (with_reducible assumption) | assumption)
                                        have q48 : (x10_4 : Int) < ((x6_4.length : Int) : Int) := of_decide_eq_true (by first | (with_reducible assumption) | assumption)
                                        obtain ⟨hx48_0, hf48_0⟩ := Kd.R_celln 0 HO_6.out (x10_4 : Int) p48 q48
                                        replace p48 := eq_true p48
                                        replace q48 := eq_true q48
                                        have HP50 := Kd.R_putg HO_6.out (x10_4 : Int) (rd x6_4 x11_4)
                                        go_wp2_with (first | ((with_reducible refine gate_store (t := 3) (p := 116) rfl ?_); (try (rw [drewN_self wr]; generalize hq_ : World.drewN wr _ = wr; have n0_ := Aside0.mk (Kd.R_at hq_ HO_6.out); have n1_ := Aside0.mk (below_at hq_ HB.out); clear hq_ HO_6 HB; have HO_6 := n0_; have HB := n1_; clear n0_ n1_; (try (have HP50 := Kd.R_putg HO_6.out (x10_4 : Int) (rd x6_4 x11_4))))); refine store_event (t := 3) (p := 116) (v := ?vo_w51) (w1 := (wr.setCell ⟨go37, (x10_4 : Int).toNat, none⟩ (.int .i64 (rd x6_4 x11_4)))) ?hg ?ho ?hn ?hr ?_; (case ho => rfl); (case hg => rfl); (case hn => rfl); (case hr => first | (go_simp; done) | (go_simp; rfl)); intro w51 hw; have hg : wr.grownBy w51 (some go37) := (by rw [hw]; exact HP50.2); have hp_ : Kd.R (Kd.int .i64) 3 w51 w.heap.size (fun _ => True) (.slice (some ⟨go37, 0, none⟩) x6_4.length co5) y118 := (by rw [hw, Ny118.out]; exact HP50.1); clear HP50; have n0_ := Aside0.mk (hp_); have n1_ := Aside0.mk ((by rw [hw]; exact below_set (HB.out) GB37.out : Below w.heap.size w w51)); clear HO_6; clear HB; have HO_6 := n0_; have HB := n1_; clear n0_ n1_; clear hg hw hp_; have p49 : 0 ≤ (x11_4 : Int) := of_decide_eq_true (by first | (with_reducible assumption) | assumption); have q49 : (x11_4 : Int) < ((x6_4.length : Int) : Int) := of_decide_eq_true (by first | (with_reducible assumption) | assumption); obtain ⟨hx49_0, hf49_0⟩ := Kd.R_celln 0 HO_6.out (x11_4 : Int) p49 q49; replace p49 := eq_true p49; replace q49 := eq_true q49; obtain ⟨hy52_, hz52_⟩ := Kd.R_celln 0 HO_6.out (x11_4 : Int) (of_decide_eq_true (by first | (with_reducible assumption) | assumption)) (of_decide_eq_true (by first | (with_reducible assumption) | assumption)); have HP52 := Kd.R_putg HO_6.out (x11_4 : Int) (rd x6_4 x10_4)) | ((with_reducible refine gate_store (t := 3) (p := 120) rfl ?_); (try (rw [drewN_self w51]; generalize hq_ : World.drewN w51 _ = w51; have n0_ := Aside0.mk (Kd.R_at hq_ HO_6.out); have n1_ := Aside0.mk (below_at hq_ HB.out); clear hq_ HO_6 HB; have HO_6 := n0_; have HB := n1_; clear n0_ n1_; (try (obtain ⟨hy52_, hz52_⟩ := Kd.R_celln 0 HO_6.out (x11_4 : Int) (of_decide_eq_true (by first | (with_reducible assumption) | assumption)) (of_decide_eq_true (by first | (with_reducible assumption) | assumption)))); (try (have HP52 := Kd.R_putg HO_6.out (x11_4 : Int) (rd x6_4 x10_4))))); refine store_event (t := 3) (p := 120) (v := ?vo_w53) (w1 := (w51.setCell ⟨go37, (x11_4 : Int).toNat, none⟩ (.int .i64 (rd x6_4 x10_4)))) ?hg ?ho ?hn ?hr ?_; (case ho => rfl); (case hg => rfl); (case hn => rfl); (case hr => first | (go_simp; done) | (go_simp; rfl)); intro w53 hw; have hg : w51.grownBy w53 (some go37) := (by rw [hw]; exact HP52.2); have hp_ : Kd.R (Kd.int .i64) 3 w53 w.heap.size (fun _ => True) (.slice (some ⟨go37, 0, none⟩) x6_4.length co5) y119 := (by rw [hw, Ny119.out]; exact HP52.1); clear HP52; have n0_ := Aside0.mk (hp_); have n1_ := Aside0.mk ((by rw [hw]; exact below_set (HB.out) GB37.out : Below w.heap.size w w53)); clear HO_6; clear HB; have HO_6 := n0_; have HB := n1_; clear n0_ n1_; clear hg hw hp_))
                                        repeat (go_quiet (first | ((with_reducible refine gate_store (t := 3) (p := 116) rfl ?_); (try (rw [drewN_self wr]; generalize hq_ : World.drewN wr _ = wr; have n0_ := Aside0.mk (Kd.R_at hq_ HO_6.out); have n1_ := Aside0.mk (below_at hq_ HB.out); clear hq_ HO_6 HB; have HO_6 := n0_; have HB := n1_; clear n0_ n1_; (try (have HP50 := Kd.R_putg HO_6.out (x10_4 : Int) (rd x6_4 x11_4))))); refine store_event (t := 3) (p := 116) (v := ?vo_w51) (w1 := (wr.setCell ⟨go37, (x10_4 : Int).toNat, none⟩ (.int .i64 (rd x6_4 x11_4)))) ?hg ?ho ?hn ?hr ?_; (case ho => rfl); (case hg => rfl); (case hn => rfl); (case hr => first | (go_simp; done) | (go_simp; rfl)); intro w51 hw; have hg : wr.grownBy w51 (some go37) := (by rw [hw]; exact HP50.2); have hp_ : Kd.R (Kd.int .i64) 3 w51 w.heap.size (fun _ => True) (.slice (some ⟨go37, 0, none⟩) x6_4.length co5) y118 := (by rw [hw, Ny118.out]; exact HP50.1); clear HP50; have n0_ := Aside0.mk (hp_); have n1_ := Aside0.mk ((by rw [hw]; exact below_set (HB.out) GB37.out : Below w.heap.size w w51)); clear HO_6; clear HB; have HO_6 := n0_; have HB := n1_; clear n0_ n1_; clear hg hw hp_; have p49 : 0 ≤ (x11_4 : Int) := of_decide_eq_true (by first | (with_reducible assumption) | assumption); have q49 : (x11_4 : Int) < ((x6_4.length : Int) : Int) := of_decide_eq_true (by first | (with_reducible assumption) | assumption); obtain ⟨hx49_0, hf49_0⟩ := Kd.R_celln 0 HO_6.out (x11_4 : Int) p49 q49; replace p49 := eq_true p49; replace q49 := eq_true q49; obtain ⟨hy52_, hz52_⟩ := Kd.R_celln 0 HO_6.out (x11_4 : Int) (of_decide_eq_true (by first | (with_reducible assumption) | assumption)) (of_decide_eq_true (by first | (with_reducible assumption) | assumption)); have HP52 := Kd.R_putg HO_6.out (x11_4 : Int) (rd x6_4 x10_4)) | ((with_reducible refine gate_store (t := 3) (p := 120) rfl ?_); (try (rw [drewN_self w51]; generalize hq_ : World.drewN w51 _ = w51; have n0_ := Aside0.mk (Kd.R_at hq_ HO_6.out); have n1_ := Aside0.mk (below_at hq_ HB.out); clear hq_ HO_6 HB; have HO_6 := n0_; have HB := n1_; clear n0_ n1_; (try (obtain ⟨hy52_, hz52_⟩ := Kd.R_celln 0 HO_6.out (x11_4 : Int) (of_decide_eq_true (by first | (with_reducible assumption) | assumption)) (of_decide_eq_true (by first | (with_reducible assumption) | assumption)))); (try (have HP52 := Kd.R_putg HO_6.out (x11_4 : Int) (rd x6_4 x10_4))))); refine store_event (t := 3) (p := 120) (v := ?vo_w53) (w1 := (w51.setCell ⟨go37, (x11_4 : Int).toNat, none⟩ (.int .i64 (rd x6_4 x10_4)))) ?hg ?ho ?hn ?hr ?_; (case ho => rfl); (case hg => rfl); (case hn => rfl); (case hr => first | (go_simp; done) | (go_simp; rfl)); intro w53 hw; have hg : w51.grownBy w53 (some go37) := (by rw [hw]; exact HP52.2); have hp_ : Kd.R (Kd.int .i64) 3 w53 w.heap.size (fun _ => True) (.slice (some ⟨go37, 0, none⟩) x6_4.length co5) y119 := (by rw [hw, Ny119.out]; exact HP52.1); clear HP52; have n0_ := Aside0.mk (hp_); have n1_ := Aside0.mk ((by rw [hw]; exact below_set (HB.out) GB37.out : Below w.heap.size w w53)); clear HO_6; clear HB; have HO_6 := n0_; have HB := n1_; clear n0_ n1_; clear hg hw hp_)); try go_wp2_with (first | ((with_reducible refine gate_store (t := 3) (p := 116) rfl ?_); (try (rw [drewN_self wr]; generalize hq_ : World.drewN wr _ = wr; have n0_ := Aside0.mk (Kd.R_at hq_ HO_6.out); have n1_ := Aside0.mk (below_at hq_ HB.out); clear hq_ HO_6 HB; have HO_6 := n0_; have HB := n1_; clear n0_ n1_; (try (have HP50 := Kd.R_putg HO_6.out (x10_4 : Int) (rd x6_4 x11_4))))); refine store_event (t := 3) (p := 116) (v := ?vo_w51) (w1 := (wr.setCell ⟨go37, (x10_4 : Int).toNat, none⟩ (.int .i64 (rd x6_4 x11_4)))) ?hg ?ho ?hn ?hr ?_; (case ho => rfl); (case hg => rfl); (case hn => rfl); (case hr => first | (go_simp; done) | (go_simp; rfl)); intro w51 hw; have hg : wr.grownBy w51 (some go37) := (by rw [hw]; exact HP50.2); have hp_ : Kd.R (Kd.int .i64) 3 w51 w.heap.size (fun _ => True) (.slice (some ⟨go37, 0, none⟩) x6_4.length co5) y118 := (by rw [hw, Ny118.out]; exact HP50.1); clear HP50; have n0_ := Aside0.mk (hp_); have n1_ := Aside0.mk ((by rw [hw]; exact below_set (HB.out) GB37.out : Below w.heap.size w w51)); clear HO_6; clear HB; have HO_6 := n0_; have HB := n1_; clear n0_ n1_; clear hg hw hp_; have p49 : 0 ≤ (x11_4 : Int) := of_decide_eq_true (by first | (with_reducible assumption) | assumption); have q49 : (x11_4 : Int) < ((x6_4.length : Int) : Int) := of_decide_eq_true (by first | (with_reducible assumption) | assumption); obtain ⟨hx49_0, hf49_0⟩ := Kd.R_celln 0 HO_6.out (x11_4 : Int) p49 q49; replace p49 := eq_true p49; replace q49 := eq_true q49; obtain ⟨hy52_, hz52_⟩ := Kd.R_celln 0 HO_6.out (x11_4 : Int) (of_decide_eq_true (by first | (with_reducible assumption) | assumption)) (of_decide_eq_true (by first | (with_reducible assumption) | assumption)); have HP52 := Kd.R_putg HO_6.out (x11_4 : Int) (rd x6_4 x10_4)) | ((with_reducible refine gate_store (t := 3) (p := 120) rfl ?_); (try (rw [drewN_self w51]; generalize hq_ : World.drewN w51 _ = w51; have n0_ := Aside0.mk (Kd.R_at hq_ HO_6.out); have n1_ := Aside0.mk (below_at hq_ HB.out); clear hq_ HO_6 HB; have HO_6 := n0_; have HB := n1_; clear n0_ n1_; (try (obtain ⟨hy52_, hz52_⟩ := Kd.R_celln 0 HO_6.out (x11_4 : Int) (of_decide_eq_true (by first | (with_reducible assumption) | assumption)) (of_decide_eq_true (by first | (with_reducible assumption) | assumption)))); (try (have HP52 := Kd.R_putg HO_6.out (x11_4 : Int) (rd x6_4 x10_4))))); refine store_event (t := 3) (p := 120) (v := ?vo_w53) (w1 := (w51.setCell ⟨go37, (x11_4 : Int).toNat, none⟩ (.int .i64 (rd x6_4 x10_4)))) ?hg ?ho ?hn ?hr ?_; (case ho => rfl); (case hg => rfl); (case hn => rfl); (case hr => first | (go_simp; done) | (go_simp; rfl)); intro w53 hw; have hg : w51.grownBy w53 (some go37) := (by rw [hw]; exact HP52.2); have hp_ : Kd.R (Kd.int .i64) 3 w53 w.heap.size (fun _ => True) (.slice (some ⟨go37, 0, none⟩) x6_4.length co5) y119 := (by rw [hw, Ny119.out]; exact HP52.1); clear HP52; have n0_ := Aside0.mk (hp_); have n1_ := Aside0.mk ((by rw [hw]; exact below_set (HB.out) GB37.out : Below w.heap.size w w53)); clear HO_6; clear HB; have HO_6 := n0_; have HB := n1_; clear n0_ n1_; clear hg hw hp_)))
                                        (try simp only [← hl6_4])
                                        go_roundg k4
                                        case measure => have := HK1.out; have := HJ6.out; have := HJ20.out; have := HK4.out; omega
                                        case rel => exact ⟨(y119), (wrap64 (x10_4 + 1)), (wrap64 (x11_4 - 1)), (by first | rfl | (simp; done) | (simp [*]; done)), (by first | rfl | (simp; done) | (simp [*]; done)), H', ⟨by have := HK1.out; have := HJ6.out; have := HJ20.out; have := HK4.out; omega⟩, ⟨by (try simp only [hl6_1]); (try simp only [hl6_4]); (with_reducible repeat (first | apply Kd.R_alloc | apply Kd.R_drewN | apply Kd.R_drew)); exact HO_6.out⟩, ⟨by repeat (first | (with_reducible first | exact HB.out | apply below_alloc | apply pw_below_drewN | apply below_drew1) | exact HB.out)⟩⟩
                                      · rw [if_neg c47] at H
                                        exact absurd H (by simp)
                                    · rw [if_neg c46] at H
                                      exact absurd H (by simp)
                                  · rw [if_neg c45] at H
                                    exact absurd H (by simp)
                                · rw [if_neg c44] at H
                                  exact absurd H (by simp)
                              · rw [if_neg c43] at H
                                have c43b0 : decide (x10_4 < x11_4) = false := decide_eq_false c43
                                clear c43
                                simp only [Option.some.injEq, Prod.mk.injEq] at H
                                obtain ⟨rfl, rfl⟩ := H
                                go_wp2
                                repeat (go_quiet (fail); try go_wp2)
                                go_ret2
                                exact ⟨_, by first | rfl | (simp [errW_none, errW_some] <;> rfl) | (simp [*, errW_none, errW_some] <;> rfl), by (with_reducible repeat (first | apply Kd.R_alloc | apply Kd.R_drewN | apply Kd.R_drew)); exact HO_6.out, by repeat (first | (with_reducible first | exact HB.out | apply below_alloc | apply pw_below_drewN | apply below_drew1) | exact HB.out)⟩
                        · rw [if_neg c36] at H
                          exact absurd H (by simp)
                      · rw [if_neg c35] at H
                        exact absurd H (by simp)
                    · rw [if_neg c34] at H
                      exact absurd H (by simp)
                  · rw [if_neg c33] at H
                    exact absurd H (by simp)
      · rw [if_neg c6] at H
        have c6b0 : decide (0 ≤ x7_1) = false := decide_eq_false c6
        clear c6
        simp only [Option.some.injEq, Prod.mk.injEq] at H
        obtain ⟨rfl, rfl⟩ := H
        go_wp2
        repeat (go_quiet (fail); try go_wp2)
        go_ret2
        exact ⟨_, by first | rfl | (simp [errW_none, errW_some] <;> rfl) | (simp [*, errW_none, errW_some] <;> rfl), by first | exact Kd.R_nil _ _ _ _ _ | exact Kd.N_nil _ _ _ _ _ | exact Kd.V_nil _ _ _ _ _ | exact Kd.Q_nil _ _ _ _ _ | exact Kd.S_nil _ _ _ _ _, by repeat (first | (with_reducible first | exact HB.out | apply below_alloc | apply pw_below_drewN | apply below_drew1) | exact HB.out)⟩

end Go.Proofs.YtpdcjkiejglaiaaDoor.Q

/- Laid by a program of this session (wip/tools/own_print.py) over the translation of this seat: contracts of the functions that the statement reaches. -/
namespace Go.Proofs.YtpdcjkiejglaiaaDoor.Q
open Go.RowKit Go.Proofs.YtpdcjkiejglaiaaDoorW.PrintWords Go.Proofs.YtpdcjkiejglaiaaDoorW.PrintLast Go.Proofs.YtpdcjkiejglaiaaDoorW.PrintMore
attribute [local go_sem] max2_int min2_int max_two min_two max_three min_three max_four min_four   -- for this text's walks alone
set_option linter.unusedVariables false
set_option linter.unusedSimpArgs false

/-! ### spec_leList: function 17 -/
def spec_leList.l0 : Nat → Int → List Int → Option (List Int)
  | 0, _, _ => none
  | k + 1, x0, x3 => if x0 > 0 then ((some (([Int.tmod x0 10] : List Int) : List Int)).bind fun y104 => (if y104.length + x3.length < 17592186044416 then (spec_leList.l0 k (wrap64 (Int.tdiv x0 10)) (y104 ++ x3)) else (none))) else (some x3)
def spec_leList.f (k : Nat) (a0 : Int) : Option (List Int) := spec_leList.l0 k (wrap64 (Int.tdiv a0 10)) (([Int.tmod a0 10] : List Int))
theorem spec_leList.mono_l : ∀ k, (∀ y0 y1, LeO (spec_leList.l0 k y0 y1) (spec_leList.l0 (k + 1) y0 y1))
  | 0 => fun _ _ r h => by simp [spec_leList.l0] at h
  | k + 1 => by
    have ih0 := spec_leList.mono_l k
    · intro y0 y1
      unfold spec_leList.l0
      repeat' first
      | (with_reducible exact ih0 _ _)
      | (with_reducible exact LeO.refl _)
      | (with_reducible exact LeO.none _)
      | (with_reducible refine LeO.ite ?_ ?_)
      | (with_reducible refine LeO.bind ?_ (fun _ => ?_))
      | exact ih0 _ _
      | exact LeO.none _
      | refine LeO.ite ?_ ?_
      | refine LeO.bind ?_ (fun _ => ?_)
theorem spec_leList.mono : ∀ a0 k, LeO (spec_leList.f k a0) (spec_leList.f (k + 1) a0) := by
  intro a0 k
  have ih0 := spec_leList.mono_l k
  unfold spec_leList.f
  repeat' first
      | (with_reducible exact ih0 _ _)
      | (with_reducible exact LeO.refl _)
      | (with_reducible exact LeO.none _)
      | (with_reducible refine LeO.ite ?_ ?_)
      | (with_reducible refine LeO.bind ?_ (fun _ => ?_))
      | exact ih0 _ _
      | exact LeO.none _
      | refine LeO.ite ?_ ?_
      | refine LeO.bind ?_ (fun _ => ?_)
set_option maxHeartbeats 8000000 in
set_option maxRecDepth 100000 in
theorem spec_leList.calls (k : Nat) (a0 : Int) (r : List Int) (w : World) (h : spec_leList.f k a0 = some r) :
    Calls Tryd.prog 17 #[.int .i64 a0] w fun e w' => ∃ v0_ : Value, e = .returned (v0_) ∧ Kd.R (Kd.int .i64) 3 w' w.heap.size (fun _ => True) v0_ r ∧ Below w.heap.size w w' := by
  have HB := Aside0.mk (Below.refl w.heap.size w)
  have H : (spec_leList.l0 k (wrap64 (Int.tdiv a0 10)) (([Int.tmod a0 10] : List Int))) = some r := h
  clear h
  obtain ⟨y101, hy101⟩ : ∃ y_ : List Int, y_ = (([Int.tmod a0 10] : List Int)) := ⟨_, rfl⟩
  replace H : (spec_leList.l0 k (wrap64 (Int.tdiv a0 10)) y101) = some r := by first | (rw [hy101]; with_reducible exact H) | (have H2_ := (Option.bind_some _ _).symm.trans H; rw [hy101]; with_reducible exact H2_) | (have H2_ := (Option.bind_some _ _).symm.trans H; with_reducible exact H2_) | with_reducible exact H | (rw [hy101]; exact H) | exact H
  have Ny101 := Aside0.mk hy101
  clear hy101
  have H' := Aside0.mk H
  clear H
  go_enter Tryd.func17, Tryd.ntmps17
  go_wp2_with (first | ((with_reducible refine gate_dst (N := 6) rfl ?_); refine Kd.R_lit (Kd.int .i64) _ 3 ?hg (N := 6) ?hd (xs := ([Int.tmod a0 10] : List Int)) (inner := [.int .i64 (Int.tmod a0 10)]) (ok := fun _ => True) (okp := fun _ => True) ?hr ?hp (fun _ hk => hk) trivial (Below.refl _ _) (Nat.le_refl _) (by simp) ?_; (case hd => rfl); (case hg => rfl); (case hr => first | (go_simp; done) | (go_simp; rfl)); (case hp => exact (Reps.one (show Kd.M (Kd.int .i64) _ _ _ (Int.tmod a0 10) [.int .i64 (Int.tmod a0 10)] from rfl) (Reps.none _ _))); intro v102 w2 ho3 hb hg_ hnew_; clear hg_ hnew_; (first | rw [← Ny101.out] at ho3 | (simp only [Int.reduceToNat] at ho3; rw [← Ny101.out] at ho3)); have n0_ := Aside0.mk (Kd.R_lower ho3 (below_size (by repeat (first | (with_reducible first | exact HB.out | apply below_alloc | apply pw_below_drewN | apply below_drew1) | exact HB.out)))); have n1_ := Aside0.mk (below_step (by repeat (first | (with_reducible first | exact HB.out | apply below_alloc | apply pw_below_drewN | apply below_drew1) | exact HB.out)) hb); clear HB; have HO103 := n0_; have HB := n1_; clear n0_ n1_; clear hb ho3))
  go_loopg [0, 3] k (fun kq v0 v3 w' => ∃ (x0_1 : Int) (x3_1 : List Int), v0 = .int .i64 x0_1 ∧ Aside0 (spec_leList.l0 kq x0_1 x3_1 = some r) ∧ Aside0 (kq ≤ k) ∧ Aside0 (Kd.R (Kd.int .i64) 3 w' w.heap.size (fun _ => True) v3 x3_1) ∧ Aside0 (Below w.heap.size w w'))
  case atStart => exact ⟨(wrap64 (Int.tdiv a0 10)), (y101), (by first | rfl | (simp; done) | (simp [*]; done)), H', ⟨Nat.le_refl _⟩, ⟨by (with_reducible repeat (first | apply Kd.R_alloc | apply Kd.R_drewN | apply Kd.R_drew)); exact HO103.out⟩, ⟨by repeat (first | (with_reducible first | exact HB.out | apply below_alloc | apply pw_below_drewN | apply below_drew1) | exact HB.out)⟩⟩
  case round =>
    clear H'
    try clear c1
    try clear p2
    obtain ⟨x0_1, x3_1, rfl, HA, HK1, HO_3, HB⟩ := hrel
    cases gk with
    | zero => exact absurd HA.out (by simp [spec_leList.l0])
    | succ k1 =>
      have H := HA.out
      clear HA
      simp only [spec_leList.l0] at H
      by_cases c4 : x0_1 > 0
      · rw [if_pos c4] at H
        have c4b0 : decide (0 < x0_1) = true := decide_eq_true c4
        clear c4
        obtain ⟨y104, hy104⟩ : ∃ y_ : List Int, y_ = (([Int.tmod x0_1 10] : List Int)) := ⟨_, rfl⟩
        replace H : (if y104.length + x3_1.length < 17592186044416 then (spec_leList.l0 k1 (wrap64 (Int.tdiv x0_1 10)) (y104 ++ x3_1)) else (none)) = some r := by first | (rw [hy104]; with_reducible exact H) | (have H2_ := (Option.bind_some _ _).symm.trans H; rw [hy104]; with_reducible exact H2_) | (have H2_ := (Option.bind_some _ _).symm.trans H; with_reducible exact H2_) | with_reducible exact H | (rw [hy104]; exact H) | exact H
        have Ny104 := Aside0.mk hy104
        clear hy104
        by_cases c5 : y104.length + x3_1.length < 17592186044416
        · rw [if_pos c5] at H
          have LMc5 := Aside0.mk c5
          clear c5
          obtain ⟨y107, hy107⟩ : ∃ y_ : List Int, y_ = (y104 ++ x3_1) := ⟨_, rfl⟩
          replace H : (spec_leList.l0 k1 (wrap64 (Int.tdiv x0_1 10)) y107) = some r := by first | (rw [hy107]; with_reducible exact H) | (have H2_ := (Option.bind_some _ _).symm.trans H; rw [hy107]; with_reducible exact H2_) | (have H2_ := (Option.bind_some _ _).symm.trans H; with_reducible exact H2_) | with_reducible exact H | (rw [hy107]; exact H) | exact H
          have Ny107 := Aside0.mk hy107
          clear hy107
          have H' := Aside0.mk H
          clear H
          go_wp2_with (first | ((with_reducible refine gate_dst (N := 15) rfl ?_); refine Kd.R_lit (Kd.int .i64) _ 3 ?hg (N := 15) ?hd (xs := ([Int.tmod x0_1 10] : List Int)) (inner := [.int .i64 (Int.tmod x0_1 10)]) (ok := fun _ => True) (okp := fun _ => True) ?hr ?hp (fun _ hk => hk) trivial (Below.refl _ _) (Nat.le_refl _) (by simp) ?_; (case hd => rfl); (case hg => rfl); (case hr => first | (go_simp; done) | (go_simp; rfl)); (case hp => exact (Reps.one (show Kd.M (Kd.int .i64) _ _ _ (Int.tmod x0_1 10) [.int .i64 (Int.tmod x0_1 10)] from rfl) (Reps.none _ _))); intro v105 w6 ho7 hb hg_ hnew_; clear hg_ hnew_; (first | rw [← Ny104.out] at ho7 | (simp only [Int.reduceToNat] at ho7; rw [← Ny104.out] at ho7)); have n0_ := Aside0.mk (Kd.R_elder' (by (with_reducible repeat (first | apply Kd.R_alloc | apply Kd.R_drewN | apply Kd.R_drew)); exact HO_3.out) (Kd.R_base ho7) hb); have n1_ := Aside0.mk (Kd.R_lower (Kd.R_new' ho7 (Kd.R_lt (by (with_reducible repeat (first | apply Kd.R_alloc | apply Kd.R_drewN | apply Kd.R_drew)); exact HO_3.out))) (below_size (by repeat (first | (with_reducible first | exact HB.out | apply below_alloc | apply pw_below_drewN | apply below_drew1) | exact HB.out)))); have n2_ := Aside0.mk (below_step (by repeat (first | (with_reducible first | exact HB.out | apply below_alloc | apply pw_below_drewN | apply below_drew1) | exact HB.out)) hb); clear HO_3; clear HB; have HO_3 := n0_; have HO106 := n1_; have HB := n2_; clear n0_ n1_ n2_; clear hb ho7; obtain ⟨Ao9, co9, eo9⟩ := Kd.R_slice HO_3.out; subst eo9) | ((with_reducible refine gate_builtin (b := .append) (xs := #[.tmp 15, .tmp 16]) rfl ?_); at_builtin; refine Kd.R_append_rows (Kd.int .i64) (w0 := w) w.heap.size rfl (.tmp 15) (.tmp 16) 29 3 (.int .i64 0) 8 rfl Tryd.underlying29 info3 rfl (by decide) (by omega) v105 y104 x3_1 _ _ _ (fun k_ => some k_ ≠ (.slice Ao9 x3_1.length co9 : Value).ownBlock) (fun _ => False) rfl rfl ?aO ?aR (fun _ _ h => h) (fun _ h => h.elim) ?aF ?aB ?aS ?aL ?_; (case aR => repeat (first | exact (Kd.R_reads' HO_3.out).2.2 | (with_reducible refine Kd.C_alloc ?_ _) | (with_reducible refine Kd.C_drewN ?_ _) | (with_reducible refine Kd.C_drew ?_))); (case aB => exact (by repeat (first | (with_reducible first | exact HB.out | apply below_alloc | apply pw_below_drewN | apply below_drew1) | exact HB.out))); (case aF => exact (fun k_ hk => Kd.fresh' (Kd.R_lt (by (with_reducible repeat (first | apply Kd.R_alloc | apply Kd.R_drewN | apply Kd.R_drew)); exact HO_3.out)) k_ hk)); (case aO => exact (by (with_reducible repeat (first | apply Kd.R_alloc | apply Kd.R_drewN | apply Kd.R_drew)); exact Kd.R_mono HO106.out (fun _ hk => hk.2))); (case aS => exact (below_size (by repeat (first | (with_reducible first | exact HB.out | apply below_alloc | apply pw_below_drewN | apply below_drew1) | exact HB.out)))); (case aL => have := LMc5.out; omega); intro v108 w8 ho hb hg hat; rw [← Ny107.out] at ho; have n0_ := Aside0.mk (Kd.R_after (ok := (fun _ => True)) (by (with_reducible repeat (first | apply Kd.R_alloc | apply Kd.R_drewN | apply Kd.R_drew)); exact HO_3.out) hg hat); have n1_ := Aside0.mk (hb); have n2_ := Aside0.mk (ho); clear HO_3; clear HB; clear HO106; have HO_3 := n0_; have HB := n1_; have HO109 := n2_; clear n0_ n1_ n2_; clear ho hb hg hat))
          go_roundg k1
          case measure => have := HK1.out; omega
          case rel => exact ⟨(wrap64 (Int.tdiv x0_1 10)), (y107), (by first | rfl | (simp; done) | (simp [*]; done)), H', ⟨by have := HK1.out; omega⟩, ⟨by (with_reducible repeat (first | apply Kd.R_alloc | apply Kd.R_drewN | apply Kd.R_drew)); exact Kd.R_mono HO109.out (fun _ hk => trivial)⟩, ⟨by repeat (first | (with_reducible first | exact HB.out | apply below_alloc | apply pw_below_drewN | apply below_drew1) | exact HB.out)⟩⟩
        · rw [if_neg c5] at H
          exact absurd H (by simp)
      · rw [if_neg c4] at H
        have c4b0 : decide (0 < x0_1) = false := decide_eq_false c4
        clear c4
        obtain rfl := Option.some.inj H
        go_wp2
        go_ret
        exact ⟨_, by first | rfl | (simp [errW_none, errW_some] <;> rfl) | (simp [*, errW_none, errW_some] <;> rfl), by (with_reducible repeat (first | apply Kd.R_alloc | apply Kd.R_drewN | apply Kd.R_drew)); exact HO_3.out, by repeat (first | (with_reducible first | exact HB.out | apply below_alloc | apply pw_below_drewN | apply below_drew1) | exact HB.out)⟩

end Go.Proofs.YtpdcjkiejglaiaaDoor.Q

/- Laid by a program of this session (wip/tools/own_print.py) over the translation of this seat: contracts of the functions that the statement reaches. -/
namespace Go.Proofs.YtpdcjkiejglaiaaDoor.Q
open Go.RowKit Go.Proofs.YtpdcjkiejglaiaaDoorW.PrintWords Go.Proofs.YtpdcjkiejglaiaaDoorW.PrintLast Go.Proofs.YtpdcjkiejglaiaaDoorW.PrintMore
attribute [local go_sem] max2_int min2_int max_two min_two max_three min_three max_four min_four   -- for this text's walks alone
set_option linter.unusedVariables false
set_option linter.unusedSimpArgs false

/-! ### spec_leOf: function 18 -/
def spec_leOf.l0 : Nat → Int → List Int → Int → Int → Option (Int)
  | 0, _, _, _, _ => none
  | k + 1, x3, x6, x7, x8 => if x8 < x7 then (if 0 ≤ x8 then (if x8 < (x6.length : Int) then (spec_leOf.l0 k (wrap64 ((wrap64 (10 * x3)) + (rd x6 x8))) x6 x7 (wrap64 (x8 + 1))) else (none)) else (none)) else (some x3)
def spec_leOf.f (k : Nat) (l0 : List Int) : Option (Int) := spec_leOf.l0 k 0 l0 (l0.length : Int) 0
theorem spec_leOf.mono_l : ∀ k, (∀ y0 y1 y2 y3, LeO (spec_leOf.l0 k y0 y1 y2 y3) (spec_leOf.l0 (k + 1) y0 y1 y2 y3))
  | 0 => fun _ _ _ _ r h => by simp [spec_leOf.l0] at h
  | k + 1 => by
    have ih0 := spec_leOf.mono_l k
    · intro y0 y1 y2 y3
      unfold spec_leOf.l0
      repeat' first
      | (with_reducible exact ih0 _ _ _ _)
      | (with_reducible exact LeO.refl _)
      | (with_reducible exact LeO.none _)
      | (with_reducible refine LeO.ite ?_ ?_)
      | (with_reducible refine LeO.bind ?_ (fun _ => ?_))
      | exact ih0 _ _ _ _
      | exact LeO.none _
      | refine LeO.ite ?_ ?_
      | refine LeO.bind ?_ (fun _ => ?_)
theorem spec_leOf.mono : ∀ a0 k, LeO (spec_leOf.f k a0) (spec_leOf.f (k + 1) a0) := by
  intro a0 k
  have ih0 := spec_leOf.mono_l k
  unfold spec_leOf.f
  repeat' first
      | (with_reducible exact ih0 _ _ _ _)
      | (with_reducible exact LeO.refl _)
      | (with_reducible exact LeO.none _)
      | (with_reducible refine LeO.ite ?_ ?_)
      | (with_reducible refine LeO.bind ?_ (fun _ => ?_))
      | exact ih0 _ _ _ _
      | exact LeO.none _
      | refine LeO.ite ?_ ?_
      | refine LeO.bind ?_ (fun _ => ?_)
set_option maxHeartbeats 8000000 in
set_option maxRecDepth 100000 in
theorem spec_leOf.calls (k : Nat) (A0 : Option Addr) (c0 : Nat) (l0 : List Int) (r : Int) (w : World) (hr0 : Kd.C (Kd.int .i64) w A0 l0.length l0) (hc0 : l0.length ≤ c0) (h : spec_leOf.f k l0 = some r) :
    Calls Tryd.prog 18 #[.slice A0 l0.length c0] w fun e w' => e = .returned (.int .i64 r) ∧ Drawn0 w w' := by
  have HR0 := Aside0.mk hr0
  have HC0 := Aside0.mk hc0
  clear hr0 hc0
  have H : (spec_leOf.l0 k 0 l0 (l0.length : Int) 0) = some r := h
  clear h
  have H' := Aside0.mk H
  clear H
  go_enter Tryd.func18, Tryd.ntmps18
  go_wp2
  go_loopg [3, 8] k (fun kq v3 v8 w' => ∃ (x3_1 : Int) (x8_1 : Int), v3 = .int .i64 x3_1 ∧ v8 = .int .i64 x8_1 ∧ Aside0 (spec_leOf.l0 kq x3_1 l0 (l0.length : Int) x8_1 = some r) ∧ Aside0 (kq ≤ k) ∧ Drawn0 w w')
  case atStart => exact ⟨(0), (0), (by first | rfl | (simp; done) | (simp [*]; done)), (by first | rfl | (simp; done) | (simp [*]; done)), H', ⟨Nat.le_refl _⟩, by repeat (first | exact Drawn0.refl _ | apply Drawn0.step)⟩
  case round =>
    clear H'
    try clear c1
    obtain ⟨x3_1, x8_1, rfl, rfl, HA, HK1, ⟨m1, rfl⟩⟩ := hrel
    cases gk with
    | zero => exact absurd HA.out (by simp [spec_leOf.l0])
    | succ k1 =>
      have H := HA.out
      clear HA
      simp only [spec_leOf.l0] at H
      by_cases c2 : x8_1 < (l0.length : Int)
      · rw [if_pos c2] at H
        have c2b0 : decide (x8_1 < (l0.length : Int)) = true := decide_eq_true c2
        clear c2
        by_cases c3 : 0 ≤ x8_1
        · rw [if_pos c3] at H
          have c3b0 : decide (0 ≤ x8_1) = true := decide_eq_true c3
          clear c3
          by_cases c4 : x8_1 < (l0.length : Int)
          · rw [if_pos c4] at H
            have c4b0 : decide (x8_1 < (l0.length : Int)) = true := decide_eq_true c4
            clear c4
            have H' := Aside0.mk H
            clear H
            have p101 : 0 ≤ (x8_1 : Int) := of_decide_eq_true (by first | (with_reducible assumption) | assumption)
            have q101 : x8_1 < (l0.length : Int) := of_decide_eq_true (by first | (with_reducible assumption) | assumption)
            obtain ⟨ad101, e101, hx101_0⟩ := Kd.at_int HR0.out x8_1 p101 q101
            cases e101
            replace p101 := eq_true p101
            replace q101 := eq_true q101
            go_wp2
            go_roundg k1
            case measure => have := HK1.out; omega
            case rel => exact ⟨(wrap64 ((wrap64 (10 * x3_1)) + (rd l0 x8_1))), (wrap64 (x8_1 + 1)), (by first | rfl | (simp; done) | (simp [*]; done)), (by first | rfl | (simp; done) | (simp [*]; done)), H', ⟨by have := HK1.out; omega⟩, by repeat (first | exact Drawn0.refl _ | apply Drawn0.step)⟩
          · rw [if_neg c4] at H
            exact absurd H (by simp)
        · rw [if_neg c3] at H
          exact absurd H (by simp)
      · rw [if_neg c2] at H
        have c2b0 : decide (x8_1 < (l0.length : Int)) = false := decide_eq_false c2
        clear c2
        obtain rfl := Option.some.inj H
        go_wp2
        go_ret
        exact ⟨by first | rfl | (simp; done) | (simp [*]; done), by repeat (first | exact Drawn0.refl _ | apply Drawn0.step)⟩

end Go.Proofs.YtpdcjkiejglaiaaDoor.Q

/-
  Numbers of up to eighteen digits and their digits' lists; a step on digits and on characters is one.
-/
namespace Go.Proofs.YtpdcjkiejglaiaaDoor.Q
open Go.RowKit Go.Proofs.YtpdcjkiejglaiaaDoorW.PrintWords Go.Proofs.YtpdcjkiejglaiaaDoorW.PrintLast Go.Proofs.YtpdcjkiejglaiaaDoorW.PrintMore
set_option linter.unusedVariables false
set_option linter.unusedSimpArgs false

def digs (l : List Int) : Prop := ∀ x ∈ l, 48 ≤ x ∧ x ≤ 57
theorem pow17 {i : Nat} (h : i ≤ 17) : 10 ^ i ≤ 100000000000000000 := by
  have : 10 ^ i ≤ 10 ^ 17 := Nat.pow_le_pow_right (by decide) h
  simpa using this
theorem nDigits_pow (u : Nat) : u < 10 ^ Lib.nDigits u := by
  induction u using Nat.strongRecOn with
  | _ u ih =>
    by_cases h : u < 10
    · rw [Lib.nDigits_small h]; simpa using h
    · have := ih (u / 10) (by omega)
      rw [Lib.nDigits_big h, Nat.pow_succ]
      omega
/-- a number's characters -/
def chs (u : Nat) : List Int := dl (Lib.nDigits u) u
theorem chs_dec (u : Nat) : (Lib.decDigits u).map (fun c => (c.toNat : Int)) = chs u := by
  have h1 := Lib.nDigits_pos u
  have h2 := nDigits_pow u
  obtain ⟨m, hm⟩ : ∃ m, Lib.nDigits u = m + 1 := ⟨Lib.nDigits u - 1, by omega⟩
  unfold chs
  rw [hm] at h2 ⊢
  have := (pad_dl m u h2).2
  rw [hm, Nat.sub_self] at this
  simpa using this
theorem chs_big {u : Nat} (h : ¬ u < 10) : chs u = chs (u / 10) ++ [48 + ((u % 10 : Nat) : Int)] := by
  unfold chs
  rw [Lib.nDigits_big h]
  rfl
theorem chs_small {u : Nat} (h : u < 10) : chs u = [48 + (u : Int)] := by
  unfold chs
  rw [Lib.nDigits_small h]
  simp [dl, Nat.mod_eq_of_lt h]
theorem chs_digs (u : Nat) : digs (chs u) := dl_dig _ _
theorem chs_len (u : Nat) (h : u ≤ 1000000000000) : 1 ≤ (chs u).length ∧ (chs u).length ≤ 13 := by
  unfold chs
  rw [dl_length]
  exact ⟨Lib.nDigits_pos u, (pad_dl 12 u (by omega)).1⟩

/-- the digits themselves -/
def nums0 (l : List Int) : List Int := l.map (fun x => x - 48)
theorem leList_loop (x : Nat) : ∀ acc : List Int, x + acc.length ≤ 2000000000000 → Ev (fun k => spec_leList.l0 k (x : Int) acc) ((if x = 0 then [] else nums0 (chs x)) ++ acc) := by
  induction x using Nat.strongRecOn with
  | _ x ih =>
    intro acc hb
    by_cases h0 : x = 0
    · subst h0
      refine Ev.step (f := fun _ => some acc) (fun k => ?_) (Ev.eq (Ev.now _) (by simp))
      simp only [spec_leList.l0]
      rw [if_neg (by omega)]
    · have hi := ih (x / 10) (by omega) (([Int.tmod (x : Int) 10] : List Int) ++ acc) (by simp; omega)
      have e1 : wrap64 (Int.tdiv (x : Int) 10) = ((x / 10 : Nat) : Int) := by
        rw [show Int.tdiv (x : Int) 10 = ((x / 10 : Nat) : Int) from rfl, wrap_id (by omega) (by omega)]
      rw [← e1] at hi
      have e2 : Int.tmod (x : Int) 10 = ((x % 10 : Nat) : Int) := rfl
      refine Ev.step (fun k => ?_) (Ev.eq hi ?_)
      · simp only [spec_leList.l0]
        rw [if_pos (by omega)]
        simp only [Option.bind_some]
        rw [if_pos (by simp; omega)]
      · rw [if_neg h0, e2]
        by_cases h10 : x < 10
        · rw [if_pos (by omega), chs_small h10, Nat.mod_eq_of_lt h10]
          simp [nums0]
          omega
        · rw [if_neg (by omega), chs_big h10]
          simp [nums0]
          omega
theorem leList_ev (u : Nat) (h : u ≤ 1000000000000) : Ev (fun k => spec_leList.f k (u : Int)) (nums0 (chs u)) := by
  have hi := leList_loop (u / 10) ([Int.tmod (u : Int) 10] : List Int) (by simp; omega)
  have e1 : wrap64 (Int.tdiv (u : Int) 10) = ((u / 10 : Nat) : Int) := by
    rw [show Int.tdiv (u : Int) 10 = ((u / 10 : Nat) : Int) from rfl, wrap_id (by omega) (by omega)]
  have e2 : Int.tmod (u : Int) 10 = ((u % 10 : Nat) : Int) := rfl
  unfold spec_leList.f
  rw [e1]
  refine Ev.eq hi ?_
  rw [e2]
  by_cases h10 : u < 10
  · rw [if_pos (by omega), chs_small h10, Nat.mod_eq_of_lt h10]
    simp [nums0]
    omega
  · rw [if_neg (by omega), chs_big h10]
    simp [nums0]
    omega

/-- a number told by its digits -/
theorem leOf_ev (l : List Int) (hd : digs l) (hl : l.length ≤ 18) : Ev (fun k => spec_leOf.f k (nums0 l)) (val l : Int) := by
  have hlen : (nums0 l).length = l.length := by simp [nums0]
  have loop : ∀ (d j : Nat), j + d = l.length → Ev (fun k => spec_leOf.l0 k ((val (l.take j) : Nat) : Int) (nums0 l) (l.length : Int) (j : Int)) (val l : Int) := by
    intro d
    induction d with
    | zero =>
      intro j hj
      refine Ev.step (f := fun _ => some ((val l : Nat) : Int)) (fun k => ?_) (Ev.now _)
      simp only [spec_leOf.l0]
      rw [if_neg (by omega), List.take_of_length_le (by omega)]
    | succ d ih =>
      intro j hj
      have hjl : j < l.length := by omega
      refine Ev.step (fun k => ?_) (ih (j + 1) (by omega))
      have hx := hd l[j] (List.getElem_mem hjl)
      have e0 : l.take (j + 1) = l.take j ++ [l[j]] := by rw [List.take_add_one, List.getElem?_eq_getElem hjl]; rfl
      have hr : rd (nums0 l) (j : Int) = l[j] - 48 := by simp [rd, nums0, List.getD_eq_getElem?_getD, hjl]
      have hv := val_lt (l.take j) (fun x hx => hd x (List.mem_of_mem_take hx))
      have hp := pow17 (i := (l.take j).length) (by rw [List.length_take]; omega)
      have e1 : wrap64 ((j : Int) + 1) = ((j + 1 : Nat) : Int) := by rw [wrap_id (by omega) (by omega)]; rfl
      have e2 : wrap64 ((wrap64 (10 * ((val (l.take j) : Nat) : Int))) + (rd (nums0 l) (j : Int))) = ((val (l.take (j + 1)) : Nat) : Int) := by
        rw [e0, val_snoc, hr, wrap_id (i := 10 * ((val (l.take j) : Nat) : Int)) (by omega) (by omega), wrap_id (by omega) (by omega)]
        omega
      simp only [spec_leOf.l0]
      rw [if_pos (by omega), if_pos (by omega), if_pos (by omega), e2, e1]
  have := loop l.length 0 (by omega)
  unfold spec_leOf.f
  rw [hlen]
  exact this
theorem numberL_ev (l : List Int) (hd : digs l) (hl : l.length ≤ 18) : Ev (fun k => impl_numberOf.f k (strOfNums l)) (val l : Int) := by
  have hli : li (strOfNums l) = l := li_nums l fun x hx => by have := hd x hx; omega
  have hz : (strOfNums l).size = l.length := size_li hli
  have loop : ∀ (d j : Nat), j + d = l.length → Ev (fun k => impl_numberOf.l0 k (strOfNums l) ((val (l.take j) : Nat) : Int) (l.length : Int) (j : Int)) (val l : Int) := by
    intro d
    induction d with
    | zero =>
      intro j hj
      refine Ev.step (f := fun _ => some ((val l : Nat) : Int)) (fun k => ?_) (Ev.now _)
      simp only [impl_numberOf.l0]
      rw [if_neg (by omega), List.take_of_length_le (by omega)]
    | succ d ih =>
      intro j hj
      have hjl : j < l.length := by omega
      refine Ev.step (fun k => ?_) (ih (j + 1) (by omega))
      have hx := hd l[j] (List.getElem_mem hjl)
      have e0 : l.take (j + 1) = l.take j ++ [l[j]] := by rw [List.take_add_one, List.getElem?_eq_getElem hjl]; rfl
      have hr : bt (strOfNums l) (j : Int) = l[j] := by rw [bt_li, hli]; simp [List.getD_eq_getElem?_getD, hjl]
      have hv := val_lt (l.take j) (fun x hx => hd x (List.mem_of_mem_take hx))
      have hp := pow17 (i := (l.take j).length) (by rw [List.length_take]; omega)
      have e1 : wrap64 ((j : Int) + 1) = ((j + 1 : Nat) : Int) := by rw [wrap_id (by omega) (by omega)]; rfl
      have e2 : wrap64 (wrap64 (10 * ((val (l.take j) : Nat) : Int)) + (bt (strOfNums l) (j : Int) - 48) % 256) = ((val (l.take (j + 1)) : Nat) : Int) := by
        rw [e0, val_snoc, hr, wrap_id (i := 10 * ((val (l.take j) : Nat) : Int)) (by omega) (by omega), wrap_id (by omega) (by omega)]
        omega
      simp only [impl_numberOf.l0]
      rw [if_pos (by omega), if_pos (by omega), if_pos (by omega), e2, e1]
  have := loop l.length 0 (by omega)
  unfold impl_numberOf.f
  rw [hz]
  exact this

end Go.Proofs.YtpdcjkiejglaiaaDoor.Q

/- Laid by a program of this session (wip/tools/own_print.py) over the translation of this seat: contracts of the functions that the statement reaches. -/
namespace Go.Proofs.YtpdcjkiejglaiaaDoor.Q
open Go.RowKit Go.Proofs.YtpdcjkiejglaiaaDoorW.PrintWords Go.Proofs.YtpdcjkiejglaiaaDoorW.PrintLast Go.Proofs.YtpdcjkiejglaiaaDoorW.PrintMore
attribute [local go_sem] max2_int min2_int max_two min_two max_three min_three max_four min_four   -- for this text's walks alone
set_option linter.unusedVariables false
set_option linter.unusedSimpArgs false

/-! ### impl_isLeast: function 19 -/
def impl_isLeast.f (a0 : Int) : Option (Bool) := (impl_within.f a0 0 1000000000000).bind fun t101 => (some t101)
set_option maxHeartbeats 8000000 in
set_option maxRecDepth 100000 in
theorem impl_isLeast.calls (a0 : Int) (r : Bool) (w : World) (h : impl_isLeast.f a0 = some r) :
    Calls Tryd.prog 19 #[.int .i64 a0] w fun e w' => e = .returned (.bool r) ∧ Drawn0 w w' := by
  have H : ((impl_within.f a0 0 1000000000000).bind fun t101 => (some t101)) = some r := h
  clear h
  replace H := Option.bind_eq_some_iff.mp H
  obtain ⟨t101, A20, H⟩ := H
  replace H : (some t101) = some r := H
  have A2 := Aside0.mk A20
  clear A20
  obtain rfl := Option.some.inj H
  go_enter Tryd.func19, Tryd.ntmps19
  go_wp2_with (first | ((with_reducible refine gate_callee (f := 37) rfl ?_); refine goesL_ (some 4) rfl rfl Tryd.func37 (by kernel_rfl) rfl #[.int .i64 a0, .int .i64 0, .int .i64 1000000000000] rfl (by (try simp only [List.map_toArray, List.map_cons, List.map_nil]); first | done | rfl | (simp only [List.length_drop, List.length_take]; rfl)) ?_; (with_reducible refine (impl_within.calls a0 0 1000000000000 t101 _ A2.out).mono ?_); rintro e w' ⟨rfl, ⟨nd, rfl⟩⟩; refine ⟨_, rfl, ?_⟩))
  go_ret
  exact ⟨by first | rfl | (simp; done) | (simp [*]; done), by repeat (first | exact Drawn0.refl _ | apply Drawn0.step)⟩

end Go.Proofs.YtpdcjkiejglaiaaDoor.Q

/-
  'NextSameDigits' and 'LastSameDigits'. They want the library's table of powers of ten.
-/
namespace Go.Proofs.YtpdcjkiejglaiaaDoor.Q
open Go.RowKit Go.Proofs.YtpdcjkiejglaiaaDoorW.PrintWords Go.Proofs.YtpdcjkiejglaiaaDoorW.PrintLast Go.Proofs.YtpdcjkiejglaiaaDoorW.PrintMore
set_option linter.unusedVariables false
set_option linter.unusedSimpArgs false

theorem swp_dig (d : Array Int) (i j : Nat) (hi : i < d.size) (hj : j < d.size) (h : digs d.toList) : digs (Sort.swp d i j).toList := by
  have mem : ∀ k, k < d.size → d[k]! ∈ d.toList := fun k hk => by rw [getElem!_pos d k hk]; exact Array.mem_toList_iff.2 (Array.getElem_mem hk)
  intro x hx
  unfold Sort.swp at hx
  rw [Array.toList_setIfInBounds, Array.toList_setIfInBounds] at hx
  rcases List.mem_or_eq_of_mem_set hx with hx | rfl
  · rcases List.mem_or_eq_of_mem_set hx with hx | rfl
    · exact h x hx
    · exact h _ (mem j hj)
  · exact h _ (mem i hi)
theorem turn_dig (d : Array Int) (i : Nat) (h : digs d.toList) : digs (turnTail d i) := by
  intro x hx
  unfold turnTail at hx
  rcases List.mem_append.1 hx with hx | hx
  · exact h x (List.mem_of_mem_take hx)
  · exact h x (List.mem_of_mem_drop (List.mem_reverse.1 hx))
theorem turn_len (d : Array Int) (i : Nat) : (turnTail d i).length = d.size := by
  simp [turnTail]
  omega
theorem lastBe_lt (b : Int → Int → Bool) (d : Array Int) (x : Int) (j : Nat) : ∀ k, lastBe b d x k = some j → j < k
  | 0, h => by simp [lastBe] at h
  | k + 1, h => by
    simp only [lastBe] at h
    by_cases c : b x d[k]! = true
    · rw [if_pos c] at h
      obtain rfl := Option.some.inj h
      omega
    · rw [if_neg c] at h
      have := lastBe_lt b d x j k h
      omega
theorem step_dig {b : Int → Int → Bool} {d : Array Int} {l : List Int} (h : digs d.toList) (hs : stepA b d = some l) : digs l ∧ l.length = d.size := by
  unfold stepA at hs
  cases h1 : lastUp b d (d.size - 1) with
  | none => rw [h1] at hs; cases hs
  | some i =>
    rw [h1] at hs
    have hs : (match lastBe b d d[i]! d.size with | none => none | some j => some (turnTail (Sort.swp d i j) (i + 1))) = some l := hs
    have hi := (lastUp_lt b d i _ h1).1
    cases h2 : lastBe b d d[i]! d.size with
    | none => rw [h2] at hs; cases hs
    | some j =>
      rw [h2] at hs
      obtain rfl := Option.some.inj hs
      exact ⟨turn_dig _ _ (swp_dig d i j (by omega) (lastBe_lt b d _ j _ h2) h), by rw [turn_len, Sort.size_swp]⟩

/-- what they answer -/
def stepped (dn : Bool) (a0 : Int) : Option (List Int) := stepA (bef dn) (chs a0.toNat).toArray
def nsRes (a0 : Int) : Int × Bool :=
  if 0 ≤ a0 ∧ a0 ≤ 1000000000000 then (match stepped false a0 with
    | none => (0, false)
    | some l => if (val l : Int) ≤ 1000000000000 then ((val l : Int), true) else (0, false)) else (0, false)
def lsRes (a0 : Int) : Int × Bool :=
  if 0 ≤ a0 ∧ a0 ≤ 1000000000000 then (match stepped true a0 with
    | none => (0, false)
    | some l => if l.getD 0 0 = 48 then (0, false) else ((val l : Int), true)) else (0, false)
theorem isLeast_eq (a : Int) : impl_isLeast.f a = some (decide (0 ≤ a) && decide (a ≤ 1000000000000)) := by
  unfold impl_isLeast.f impl_within.f
  by_cases h : 0 ≤ a
  · rw [if_pos h]; simp [h]
  · rw [if_neg h]; simp [h]

theorem bt0 (s : ByteArray) (h : 0 < s.size) : ((s[0]'h).toNat : Int) = (li s).getD 0 0 := by
  have e := bt_li s 0
  rw [Int.toNat_zero] at e
  rw [← e]
  unfold bt
  simp [h]
  try rfl
theorem itoa_facts (a0 : Int) (h0 : 0 ≤ a0) (h1 : a0 ≤ 1000000000000) : 1 ≤ (⟨(Lib.itoa a0).toArray⟩ : ByteArray).size ∧ (⟨(Lib.itoa a0).toArray⟩ : ByteArray).size ≤ 1000 ∧ li ⟨(Lib.itoa a0).toArray⟩ = chs a0.toNat := by
  obtain ⟨u, rfl⟩ : ∃ u : Nat, a0 = (u : Int) := ⟨a0.toNat, by omega⟩
  have hli : li ⟨(Lib.itoa (u : Int)).toArray⟩ = chs u := by
    rw [Lib.itoa_nonneg, ← chs_dec]
    simp [li]
  have hl := chs_len u (by omega)
  rw [size_li hli]
  exact ⟨hl.1, by omega, by rw [hli]; rfl⟩
theorem itoa_below (a0 : Int) (h0 : 0 ≤ a0) (h1 : a0 ≤ 1000000000000) (w : World) (T : Tab w) (W : World) (hb : Below w.heap.size w W) :
    Calls Tryd.prog 21 #[.int .i64 a0] W fun e w' => e = .returned (.string ⟨(Lib.itoa a0).toArray⟩) ∧ Below w.heap.size w w' := by
  refine (Tryd.strconv_Itoa a0 (by omega) (by omega) W (T.below hb)).mono ?_
  rintro e w1 ⟨rfl, k1, os, rfl⟩
  exact ⟨rfl, below_step hb (below_grow' W k1 os)⟩

set_option maxHeartbeats 4000000 in
set_option maxRecDepth 100000 in
theorem next_any (a0 : Int) (w : World) (T : Tab w) (r1 : Int) (r2 : Bool) (hr : nsRes a0 = (r1, r2)) :
    Calls Tryd.prog 10 #[.int .i64 a0] w fun e w' => e = .returned (.tuple #[.int .i64 r1, .bool r2]) ∧ Below w.heap.size w w' := by
  have hil := isLeast_eq a0
  by_cases g : 0 ≤ a0 ∧ a0 ≤ 1000000000000
  · unfold nsRes at hr
    rw [if_pos g] at hr
    rw [decide_eq_true g.1, decide_eq_true g.2] at hil
    have IL : Aside0 (impl_isLeast.f a0 = some true) := Aside0.mk hil
    have IT := Aside0.mk (itoa_below a0 g.1 g.2 w T)
    obtain ⟨hz1, hz2, hli⟩ := itoa_facts a0 g.1 g.2
    have sd : digs (li ⟨(Lib.itoa a0).toArray⟩).toArray.toList := by rw [hli]; exact chs_digs _
    have ST := fun W R (h : stepped false a0 = R) => step_any ⟨(Lib.itoa a0).toArray⟩ false W hz1 hz2 R (by rw [hli]; exact h)
    generalize hs : (⟨(Lib.itoa a0).toArray⟩ : ByteArray) = s at *
    cases hst : stepped false a0 with
    | none =>
      rw [hst] at hr
      obtain ⟨rfl, rfl⟩ : (0 : Int) = r1 ∧ false = r2 := Prod.mk.inj hr
      have STN := Aside0.mk (fun W => ST W none hst ⟨#[]⟩ false rfl rfl)
      clear hr hil g hst ST hli hs hz1 hz2 sd T
      go_enter Tryd.func10, Tryd.ntmps10
      go_wp2_with (first | (go_at_call 19; with_reducible refine (impl_isLeast.calls a0 true _ IL.out).mono ?_; rintro e w1 ⟨rfl, ⟨nd, rfl⟩⟩) | (go_at_call 21; refine (IT.out _ (by repeat (first | (with_reducible first | exact Below.refl _ _ | apply below_alloc | apply pw_below_drewN | apply below_drew1) | exact Below.refl _ _))).mono ?_; rintro e w2 ⟨rfl, hb2⟩) | (go_at_call 20; refine (STN.out _).mono ?_; rintro e w3 ⟨rfl, hb3⟩))
      go_ret2
      exact ⟨rfl, below_step hb2 hb3⟩
    | some l =>
      rw [hst] at hr
      obtain ⟨ld, ll⟩ := step_dig (by rw [hli] at sd; exact sd) hst
      have hll : l.length ≤ 13 := by rw [ll]; exact (chs_len a0.toNat (by omega)).2
      have hl1 : 1 ≤ l.length := by rw [ll]; exact (chs_len a0.toNat (by omega)).1
      obtain ⟨k, hk⟩ := (numberL_ev l ld (by omega)).rounds
      have STS := Aside0.mk (fun W => ST W (some l) hst (strOfNums l) true rfl rfl)
      have NUM := Aside0.mk hk
      have VL := isLeast_eq (val l : Int)
      rw [decide_eq_true (show (0 : Int) ≤ (val l : Int) by omega), Bool.true_and] at VL
      generalize strOfNums l = st at *
      have hr : (if (val l : Int) ≤ 1000000000000 then ((val l : Int), true) else (0, false)) = (r1, r2) := hr
      generalize (val l : Int) = v at *
      by_cases c : v ≤ 1000000000000
      · rw [if_pos c] at hr
        obtain ⟨rfl, rfl⟩ : v = r1 ∧ true = r2 := Prod.mk.inj hr
        rw [decide_eq_true c] at VL
        have VL2 := Aside0.mk VL
        clear hr hil g hst ST hli hs hz1 hz2 sd T ld ll hll hl1 hk VL c
        go_enter Tryd.func10, Tryd.ntmps10
        go_wp2_with (first | (go_at_call 19; with_reducible refine (impl_isLeast.calls a0 true _ IL.out).mono ?_; rintro e w1 ⟨rfl, ⟨nd, rfl⟩⟩) | (go_at_call 21; refine (IT.out _ (by repeat (first | (with_reducible first | exact Below.refl _ _ | apply below_alloc | apply pw_below_drewN | apply below_drew1) | exact Below.refl _ _))).mono ?_; rintro e w2 ⟨rfl, hb2⟩) | (go_at_call 20; refine (STS.out _).mono ?_; rintro e w3 ⟨rfl, hb3⟩) | (go_at_call 22; refine (impl_numberOf.calls k st v _ NUM.out).mono ?_; rintro e w4 ⟨rfl, ⟨nd4, rfl⟩⟩) | (go_at_call 19; with_reducible refine (impl_isLeast.calls v true _ VL2.out).mono ?_; rintro e w5 ⟨rfl, ⟨nd5, rfl⟩⟩))
        go_ret2
        exact ⟨rfl, pw_below_drewN (below_step hb2 hb3) _⟩
      · rw [if_neg c] at hr
        obtain ⟨rfl, rfl⟩ : (0 : Int) = r1 ∧ false = r2 := Prod.mk.inj hr
        rw [decide_eq_false c] at VL
        have VL2 := Aside0.mk VL
        clear hr hil g hst ST hli hs hz1 hz2 sd T ld ll hll hl1 hk VL c
        go_enter Tryd.func10, Tryd.ntmps10
        go_wp2_with (first | (go_at_call 19; with_reducible refine (impl_isLeast.calls a0 true _ IL.out).mono ?_; rintro e w1 ⟨rfl, ⟨nd, rfl⟩⟩) | (go_at_call 21; refine (IT.out _ (by repeat (first | (with_reducible first | exact Below.refl _ _ | apply below_alloc | apply pw_below_drewN | apply below_drew1) | exact Below.refl _ _))).mono ?_; rintro e w2 ⟨rfl, hb2⟩) | (go_at_call 20; refine (STS.out _).mono ?_; rintro e w3 ⟨rfl, hb3⟩) | (go_at_call 22; refine (impl_numberOf.calls k st v _ NUM.out).mono ?_; rintro e w4 ⟨rfl, ⟨nd4, rfl⟩⟩) | (go_at_call 19; with_reducible refine (impl_isLeast.calls v false _ VL2.out).mono ?_; rintro e w5 ⟨rfl, ⟨nd5, rfl⟩⟩))
        go_ret2
        exact ⟨rfl, pw_below_drewN (below_step hb2 hb3) _⟩
  · unfold nsRes at hr
    rw [if_neg g] at hr
    obtain ⟨rfl, rfl⟩ : (0 : Int) = r1 ∧ false = r2 := Prod.mk.inj hr
    have hx : (decide (0 ≤ a0) && decide (a0 ≤ 1000000000000)) = false := by
      rw [Bool.and_eq_false_iff, decide_eq_false_iff_not, decide_eq_false_iff_not]
      by_cases d : 0 ≤ a0
      · exact .inr fun h => g ⟨d, h⟩
      · exact .inl d
    rw [hx] at hil
    have IL := Aside0.mk hil
    clear hr hil g hx T
    go_enter Tryd.func10, Tryd.ntmps10
    go_wp2_with (go_at_call 19; with_reducible refine (impl_isLeast.calls a0 false _ IL.out).mono ?_; rintro e w1 ⟨rfl, ⟨nd, rfl⟩⟩)
    go_ret2
    exact ⟨rfl, (by repeat (first | (with_reducible first | exact Below.refl _ _ | apply below_alloc | apply pw_below_drewN | apply below_drew1) | exact Below.refl _ _))⟩

set_option maxHeartbeats 4000000 in
set_option maxRecDepth 100000 in
theorem last_any (a0 : Int) (w : World) (T : Tab w) (r1 : Int) (r2 : Bool) (hr : lsRes a0 = (r1, r2)) :
    Calls Tryd.prog 8 #[.int .i64 a0] w fun e w' => e = .returned (.tuple #[.int .i64 r1, .bool r2]) ∧ Below w.heap.size w w' := by
  have hil := isLeast_eq a0
  by_cases g : 0 ≤ a0 ∧ a0 ≤ 1000000000000
  · unfold lsRes at hr
    rw [if_pos g] at hr
    rw [decide_eq_true g.1, decide_eq_true g.2] at hil
    have IL : Aside0 (impl_isLeast.f a0 = some true) := Aside0.mk hil
    have IT := Aside0.mk (itoa_below a0 g.1 g.2 w T)
    obtain ⟨hz1, hz2, hli⟩ := itoa_facts a0 g.1 g.2
    have sd : digs (li ⟨(Lib.itoa a0).toArray⟩).toArray.toList := by rw [hli]; exact chs_digs _
    have ST := fun W R (h : stepped true a0 = R) => step_any ⟨(Lib.itoa a0).toArray⟩ true W hz1 hz2 R (by rw [hli]; exact h)
    generalize hs : (⟨(Lib.itoa a0).toArray⟩ : ByteArray) = s at *
    cases hst : stepped true a0 with
    | none =>
      rw [hst] at hr
      obtain ⟨rfl, rfl⟩ : (0 : Int) = r1 ∧ false = r2 := Prod.mk.inj hr
      have STN := Aside0.mk (fun W => ST W none hst ⟨#[]⟩ false rfl rfl)
      clear hr hil g hst ST hli hs hz1 hz2 sd T
      go_enter Tryd.func8, Tryd.ntmps8
      go_wp2_with (first | (go_at_call 19; with_reducible refine (impl_isLeast.calls a0 true _ IL.out).mono ?_; rintro e w1 ⟨rfl, ⟨nd, rfl⟩⟩) | (go_at_call 21; refine (IT.out _ (by repeat (first | (with_reducible first | exact Below.refl _ _ | apply below_alloc | apply pw_below_drewN | apply below_drew1) | exact Below.refl _ _))).mono ?_; rintro e w2 ⟨rfl, hb2⟩) | (go_at_call 20; refine (STN.out _).mono ?_; rintro e w3 ⟨rfl, hb3⟩))
      go_ret2
      exact ⟨rfl, below_step hb2 hb3⟩
    | some l =>
      rw [hst] at hr
      obtain ⟨ld, ll⟩ := step_dig (by rw [hli] at sd; exact sd) hst
      have hll : l.length ≤ 13 := by rw [ll]; exact (chs_len a0.toNat (by omega)).2
      have hl1 : 1 ≤ l.length := by rw [ll]; exact (chs_len a0.toNat (by omega)).1
      obtain ⟨k, hk⟩ := (numberL_ev l ld (by omega)).rounds
      have STS := Aside0.mk (fun W => ST W (some l) hst (strOfNums l) true rfl rfl)
      have NUM := Aside0.mk hk
      have hli2 : li (strOfNums l) = l := li_nums l fun x hx => by have := ld x hx; omega
      have hz : 0 < (strOfNums l).size := by rw [size_li hli2]; omega
      have hb0 : ∀ h : 0 < (strOfNums l).size, ((((strOfNums l)[0]'h).toNat : Nat) : Int) = l.getD 0 0 := fun h => by rw [bt0 _ h, hli2]
      have hzi : (0 : Int) < ((strOfNums l).size : Int) := by omega
      have hr : (if l.getD 0 0 = 48 then (0, false) else ((val l : Int), true)) = (r1, r2) := hr
      generalize l.getD 0 0 = x0 at *
      generalize (val l : Int) = v at *
      generalize strOfNums l = st at *
      by_cases c : x0 = 48
      · rw [if_pos c] at hr
        obtain ⟨rfl, rfl⟩ : (0 : Int) = r1 ∧ false = r2 := Prod.mk.inj hr
        subst c
        clear hr hil g hst ST hli hs hz1 hz2 sd T ld ll hll hl1 hk hli2
        go_enter Tryd.func8, Tryd.ntmps8
        go_wp2_with (first | (go_at_call 19; with_reducible refine (impl_isLeast.calls a0 true _ IL.out).mono ?_; rintro e w1 ⟨rfl, ⟨nd, rfl⟩⟩) | (go_at_call 21; refine (IT.out _ (by repeat (first | (with_reducible first | exact Below.refl _ _ | apply below_alloc | apply pw_below_drewN | apply below_drew1) | exact Below.refl _ _))).mono ?_; rintro e w2 ⟨rfl, hb2⟩) | (go_at_call 20; refine (STS.out _).mono ?_; rintro e w3 ⟨rfl, hb3⟩))
        go_ret2
        exact ⟨rfl, below_step hb2 hb3⟩
      · rw [if_neg c] at hr
        obtain ⟨rfl, rfl⟩ : v = r1 ∧ true = r2 := Prod.mk.inj hr
        have c1 : (x0 == 48) = false := beq_eq_false_iff_ne.mpr c
        clear hr hil g hst ST hli hs hz1 hz2 sd T ld ll hll hl1 hk hli2 c
        go_enter Tryd.func8, Tryd.ntmps8
        go_wp2_with (first | (go_at_call 19; with_reducible refine (impl_isLeast.calls a0 true _ IL.out).mono ?_; rintro e w1 ⟨rfl, ⟨nd, rfl⟩⟩) | (go_at_call 21; refine (IT.out _ (by repeat (first | (with_reducible first | exact Below.refl _ _ | apply below_alloc | apply pw_below_drewN | apply below_drew1) | exact Below.refl _ _))).mono ?_; rintro e w2 ⟨rfl, hb2⟩) | (go_at_call 20; refine (STS.out _).mono ?_; rintro e w3 ⟨rfl, hb3⟩) | (go_at_call 22; refine (impl_numberOf.calls k st v _ NUM.out).mono ?_; rintro e w4 ⟨rfl, ⟨nd4, rfl⟩⟩))
        go_ret2
        exact ⟨rfl, pw_below_drewN (below_step hb2 hb3) _⟩
  · unfold lsRes at hr
    rw [if_neg g] at hr
    obtain ⟨rfl, rfl⟩ : (0 : Int) = r1 ∧ false = r2 := Prod.mk.inj hr
    have hx : (decide (0 ≤ a0) && decide (a0 ≤ 1000000000000)) = false := by
      rw [Bool.and_eq_false_iff, decide_eq_false_iff_not, decide_eq_false_iff_not]
      by_cases d : 0 ≤ a0
      · exact .inr fun h => g ⟨d, h⟩
      · exact .inl d
    rw [hx] at hil
    have IL := Aside0.mk hil
    clear hr hil g hx T
    go_enter Tryd.func8, Tryd.ntmps8
    go_wp2_with (go_at_call 19; with_reducible refine (impl_isLeast.calls a0 false _ IL.out).mono ?_; rintro e w1 ⟨rfl, ⟨nd, rfl⟩⟩)
    go_ret2
    exact ⟨rfl, (by repeat (first | (with_reducible first | exact Below.refl _ _ | apply below_alloc | apply pw_below_drewN | apply below_drew1) | exact Below.refl _ _))⟩

/-- 'NextSameDigits', 'LastSameDigits' -/
def impl_NextSameDigits.f (a0 : Int) : Option (Int × Bool) := some (nsRes a0)
theorem impl_NextSameDigits.calls (a0 : Int) (r1 : Int) (r2 : Bool) (w : World) (T : Tab w) (h : impl_NextSameDigits.f a0 = some (r1, r2)) :
    Calls Tryd.prog 10 #[.int .i64 a0] w fun e w' => e = .returned (.tuple #[.int .i64 r1, .bool r2]) ∧ Below w.heap.size w w' := next_any a0 w T r1 r2 (Option.some.inj h)
def impl_LastSameDigits.f (a0 : Int) : Option (Int × Bool) := some (lsRes a0)
theorem impl_LastSameDigits.calls (a0 : Int) (r1 : Int) (r2 : Bool) (w : World) (T : Tab w) (h : impl_LastSameDigits.f a0 = some (r1, r2)) :
    Calls Tryd.prog 8 #[.int .i64 a0] w fun e w' => e = .returned (.tuple #[.int .i64 r1, .bool r2]) ∧ Below w.heap.size w w' := last_any a0 w T r1 r2 (Option.some.inj h)

end Go.Proofs.YtpdcjkiejglaiaaDoor.Q

/- Laid by a program of this session (wip/tools/own_print.py) over the translation of this seat: contracts of the functions that the statement reaches. -/
namespace Go.Proofs.YtpdcjkiejglaiaaDoor.Q
open Go.RowKit Go.Proofs.YtpdcjkiejglaiaaDoorW.PrintWords Go.Proofs.YtpdcjkiejglaiaaDoorW.PrintLast Go.Proofs.YtpdcjkiejglaiaaDoorW.PrintMore
attribute [local go_sem] max2_int min2_int max_two min_two max_three min_three max_four min_four   -- for this text's walks alone
set_option linter.unusedVariables false
set_option linter.unusedSimpArgs false

/-! ### spec_leNumber: function 15 -/
def spec_leNumber.f (a0 : Int) : Option (Bool) := (spec_l1In.f a0 0 1000000000000).bind fun t101 => (some t101)
set_option maxHeartbeats 8000000 in
set_option maxRecDepth 100000 in
theorem spec_leNumber.calls (a0 : Int) (r : Bool) (w : World) (h : spec_leNumber.f a0 = some r) :
    Calls Tryd.prog 15 #[.int .i64 a0] w fun e w' => e = .returned (.bool r) ∧ Drawn0 w w' := by
  have H : ((spec_l1In.f a0 0 1000000000000).bind fun t101 => (some t101)) = some r := h
  clear h
  replace H := Option.bind_eq_some_iff.mp H
  obtain ⟨t101, A20, H⟩ := H
  replace H : (some t101) = some r := H
  have A2 := Aside0.mk A20
  clear A20
  obtain rfl := Option.some.inj H
  go_enter Tryd.func15, Tryd.ntmps15
  go_wp2_with (first | ((with_reducible refine gate_callee (f := 35) rfl ?_); refine goesL_ (some 4) rfl rfl Tryd.func35 (by kernel_rfl) rfl #[.int .i64 a0, .int .i64 0, .int .i64 1000000000000] rfl (by (try simp only [List.map_toArray, List.map_cons, List.map_nil]); first | done | rfl | (simp only [List.length_drop, List.length_take]; rfl)) ?_; (with_reducible refine (spec_l1In.calls a0 0 1000000000000 t101 _ A2.out).mono ?_); rintro e w' ⟨rfl, ⟨nd, rfl⟩⟩; refine ⟨_, rfl, ?_⟩))
  go_ret
  exact ⟨by first | rfl | (simp; done) | (simp [*]; done), by repeat (first | exact Drawn0.refl _ | apply Drawn0.step)⟩

end Go.Proofs.YtpdcjkiejglaiaaDoor.Q

/- Laid by a program of this session (wip/tools/own_print.py) over the translation of this seat: contracts of the functions that the statement reaches. -/
namespace Go.Proofs.YtpdcjkiejglaiaaDoor.Q
open Go.RowKit Go.Proofs.YtpdcjkiejglaiaaDoorW.PrintWords Go.Proofs.YtpdcjkiejglaiaaDoorW.PrintLast Go.Proofs.YtpdcjkiejglaiaaDoorW.PrintMore
attribute [local go_sem] max2_int min2_int max_two min_two max_three min_three max_four min_four   -- for this text's walks alone
set_option linter.unusedVariables false
set_option linter.unusedSimpArgs false

/-! ### spec_LastSameDigits: function 7 -/
def spec_LastSameDigits.f (k : Nat) (a0 : Int) : Option (Int × Bool) := (spec_leNumber.f a0).bind fun t101 => (if t101 = true then ((spec_leList.f k a0).bind fun t102 => ((spec_leTurn.f k t102 false).bind fun bt105 => (if bt105.2 = true then (if 0 < (bt105.1.length : Int) then (if (rd bt105.1 0) = 0 then (some (0, false)) else ((spec_leOf.f k bt105.1).bind fun t110 => (some (t110, true)))) else (none)) else (some (0, false))))) else (some (0, false)))
theorem spec_LastSameDigits.mono : ∀ a0 k, LeO (spec_LastSameDigits.f k a0) (spec_LastSameDigits.f (k + 1) a0) := by
  intro a0 k
  unfold spec_LastSameDigits.f
  repeat' first
      | (with_reducible exact spec_leList.mono _ _)
      | (with_reducible exact spec_leOf.mono _ _)
      | (with_reducible exact spec_leTurn.mono _ _ _)
      | (with_reducible exact LeO.refl _)
      | (with_reducible exact LeO.none _)
      | (with_reducible refine LeO.ite ?_ ?_)
      | (with_reducible refine LeO.bind ?_ (fun _ => ?_))
      | exact spec_leList.mono _ _
      | exact spec_leOf.mono _ _
      | exact spec_leTurn.mono _ _ _
      | exact LeO.none _
      | refine LeO.ite ?_ ?_
      | refine LeO.bind ?_ (fun _ => ?_)
set_option maxHeartbeats 8000000 in
set_option maxRecDepth 100000 in
theorem spec_LastSameDigits.calls (k : Nat) (a0 : Int) (r1 : Int) (r2 : Bool) (w : World) (h : spec_LastSameDigits.f k a0 = some (r1, r2)) :
    Calls Tryd.prog 7 #[.int .i64 a0] w fun e w' => e = .returned (.tuple #[.int .i64 r1, .bool r2]) ∧ Below w.heap.size w w' := by
  have HB := Aside0.mk (Below.refl w.heap.size w)
  have H : ((spec_leNumber.f a0).bind fun t101 => (if t101 = true then ((spec_leList.f k a0).bind fun t102 => ((spec_leTurn.f k t102 false).bind fun bt105 => (if bt105.2 = true then (if 0 < (bt105.1.length : Int) then (if (rd bt105.1 0) = 0 then (some (0, false)) else ((spec_leOf.f k bt105.1).bind fun t110 => (some (t110, true)))) else (none)) else (some (0, false))))) else (some (0, false)))) = some (r1, r2) := h
  clear h
  replace H := Option.bind_eq_some_iff.mp H
  obtain ⟨t101, A20, H⟩ := H
  replace H : (if t101 = true then ((spec_leList.f k a0).bind fun t102 => ((spec_leTurn.f k t102 false).bind fun bt105 => (if bt105.2 = true then (if 0 < (bt105.1.length : Int) then (if (rd bt105.1 0) = 0 then (some (0, false)) else ((spec_leOf.f k bt105.1).bind fun t110 => (some (t110, true)))) else (none)) else (some (0, false))))) else (some (0, false))) = some (r1, r2) := H
  have A2 := Aside0.mk A20
  clear A20
  by_cases c3 : t101 = true
  · subst c3
    have H1 : ((spec_leList.f k a0).bind fun t102 => ((spec_leTurn.f k t102 false).bind fun bt105 => (if bt105.2 = true then (if 0 < (bt105.1.length : Int) then (if (rd bt105.1 0) = 0 then (some (0, false)) else ((spec_leOf.f k bt105.1).bind fun t110 => (some (t110, true)))) else (none)) else (some (0, false))))) = some (r1, r2) := by rw [if_pos rfl] at H; exact H
    clear H
    have H := H1
    clear H1
    replace H := Option.bind_eq_some_iff.mp H
    obtain ⟨t102, A40, H⟩ := H
    replace H : ((spec_leTurn.f k t102 false).bind fun bt105 => (if bt105.2 = true then (if 0 < (bt105.1.length : Int) then (if (rd bt105.1 0) = 0 then (some (0, false)) else ((spec_leOf.f k bt105.1).bind fun t110 => (some (t110, true)))) else (none)) else (some (0, false)))) = some (r1, r2) := H
    have A4 := Aside0.mk A40
    clear A40
    replace H := Option.bind_eq_some_iff.mp H
    obtain ⟨⟨t105, t106⟩, A50, H⟩ := H
    replace H : (if t106 = true then (if 0 < (t105.length : Int) then (if (rd t105 0) = 0 then (some (0, false)) else ((spec_leOf.f k t105).bind fun t110 => (some (t110, true)))) else (none)) else (some (0, false))) = some (r1, r2) := H
    have A5 := Aside0.mk A50
    clear A50
    by_cases c6 : t106 = true
    · subst c6
      have H1 : (if 0 < (t105.length : Int) then (if (rd t105 0) = 0 then (some (0, false)) else ((spec_leOf.f k t105).bind fun t110 => (some (t110, true)))) else (none)) = some (r1, r2) := by rw [if_pos rfl] at H; exact H
      clear H
      have H := H1
      clear H1
      by_cases c7 : 0 < (t105.length : Int)
      · rw [if_pos c7] at H
        have c7b0 : decide (0 < (t105.length : Int)) = true := decide_eq_true c7
        have c7b1 : decide (0 < t105.length) = true := decide_eq_true (by omega)
        clear c7
        by_cases c8 : (rd t105 0) = 0
        · rw [if_pos c8] at H
          have c8b0 : ((rd t105 0) == 0) = true := beq_iff_eq.mpr c8
          have c8b1 : ((rd t105 0) != 0) = false := bne_eq_false_iff_eq.mpr c8
          clear c8
          simp only [Option.some.injEq, Prod.mk.injEq] at H
          obtain ⟨rfl, rfl⟩ := H
          go_enter Tryd.func7, Tryd.ntmps7
          go_wp2_with (first | ((with_reducible refine gate_callee (f := 15) rfl ?_); refine goesL_ (some 7) rfl rfl Tryd.func15 (by kernel_rfl) rfl #[.int .i64 a0] rfl (by (try simp only [List.map_toArray, List.map_cons, List.map_nil]); first | done | rfl | (simp only [List.length_drop, List.length_take]; rfl)) ?_; (with_reducible refine (spec_leNumber.calls a0 true _ A2.out).mono ?_); rintro e w' ⟨rfl, ⟨nd, rfl⟩⟩; refine ⟨_, rfl, ?_⟩) | ((with_reducible refine gate_callee (f := 17) rfl ?_); refine goesL_ (some 11) rfl rfl Tryd.func17 (by kernel_rfl) rfl #[.int .i64 a0] rfl (by (try simp only [List.map_toArray, List.map_cons, List.map_nil]); first | done | rfl | (simp only [List.length_drop, List.length_take]; rfl)) ?_; (with_reducible refine (spec_leList.calls k a0 t102 _ A4.out).mono ?_); rintro e w9 ⟨v103, rfl, ho0, hb⟩; refine ⟨_, rfl, ?_⟩; have n0_ := Aside0.mk (Kd.R_lower ho0 (below_size (by repeat (first | (with_reducible first | exact HB.out | apply below_alloc | apply pw_below_drewN | apply below_drew1) | exact HB.out)))); have n1_ := Aside0.mk (below_step (by repeat (first | (with_reducible first | exact HB.out | apply below_alloc | apply pw_below_drewN | apply below_drew1) | exact HB.out)) hb); clear HB; have HO104 := n0_; have HB := n1_; clear n0_ n1_; (try clear hb); (try clear hb2); (try clear hk); (try clear hi); (try clear ho0); obtain ⟨Ao10, co10, eo10⟩ := Kd.R_slice HO104.out; subst eo10) | ((with_reducible refine gate_callee (f := 16) rfl ?_); refine goesL_ (some 12) rfl rfl Tryd.func16 (by kernel_rfl) rfl #[.slice Ao10 t102.length co10, .bool false] rfl (by (try simp only [List.map_toArray, List.map_cons, List.map_nil]); first | done | rfl | (simp only [List.length_drop, List.length_take]; rfl)) ?_; (with_reducible refine (spec_leTurn.calls k _ _ t102 false t105 true _ ?side1 ?side2 A5.out).mono ?_); (case side1 => repeat (first | exact (Kd.R_reads' HO104.out).2.2 | (with_reducible refine Kd.C_alloc ?_ _) | (with_reducible refine Kd.C_drewN ?_ _) | (with_reducible refine Kd.C_drew ?_))); (case side2 => exact (Kd.R_reads' HO104.out).2.1); rintro e w11 ⟨v107, rfl, ho0, hb⟩; refine ⟨_, rfl, ?_⟩; have n0_ := Aside0.mk (Kd.R_elder' (by (with_reducible repeat (first | apply Kd.R_alloc | apply Kd.R_drewN | apply Kd.R_drew)); exact HO104.out) (Kd.R_base ho0) hb); have n1_ := Aside0.mk (Kd.R_lower (Kd.R_new' ho0 (Kd.R_lt (by (with_reducible repeat (first | apply Kd.R_alloc | apply Kd.R_drewN | apply Kd.R_drew)); exact HO104.out))) (below_size (by repeat (first | (with_reducible first | exact HB.out | apply below_alloc | apply pw_below_drewN | apply below_drew1) | exact HB.out)))); have n2_ := Aside0.mk (below_step (by repeat (first | (with_reducible first | exact HB.out | apply below_alloc | apply pw_below_drewN | apply below_drew1) | exact HB.out)) hb); clear HO104; clear HB; have HO104 := n0_; have HO108 := n1_; have HB := n2_; clear n0_ n1_ n2_; (try clear hb); (try clear hb2); (try clear hk); (try clear hi); (try clear ho0); obtain ⟨Ao12, co12, eo12⟩ := Kd.R_slice HO108.out; subst eo12; have p109 : 0 ≤ (0 : Int) := (by omega); have q109 : 0 < (t105.length : Int) := of_decide_eq_true (by first | (with_reducible assumption) | assumption); obtain ⟨ad109, e109, hx109_0⟩ := Kd.at_int (Kd.R_reads' HO108.out).2.2 0 p109 q109; cases e109; have qi109 : (0 < t105.length) = True := eq_true (by omega); (try rw [show ((0 : Int)).toNat = 0 from rfl] at hx109_0); (try rw [Addr.add_zero'] at hx109_0); replace p109 := eq_true p109; replace q109 := eq_true q109))
          go_ret2
          exact ⟨by first | rfl | (simp [errW_none, errW_some] <;> rfl) | (simp [*, errW_none, errW_some] <;> rfl), by repeat (first | (with_reducible first | exact HB.out | apply below_alloc | apply pw_below_drewN | apply below_drew1) | exact HB.out)⟩
        · rw [if_neg c8] at H
          have c8b0 : ((rd t105 0) == 0) = false := beq_eq_false_iff_ne.mpr c8
          have c8b1 : ((rd t105 0) != 0) = true := bne_iff_ne.mpr c8
          replace H := Option.bind_eq_some_iff.mp H
          obtain ⟨t110, A130, H⟩ := H
          replace H : (some (t110, true)) = some (r1, r2) := H
          have A13 := Aside0.mk A130
          clear A130
          simp only [Option.some.injEq, Prod.mk.injEq] at H
          obtain ⟨rfl, rfl⟩ := H
          go_enter Tryd.func7, Tryd.ntmps7
          go_wp2_with (first | ((with_reducible refine gate_callee (f := 15) rfl ?_); refine goesL_ (some 7) rfl rfl Tryd.func15 (by kernel_rfl) rfl #[.int .i64 a0] rfl (by (try simp only [List.map_toArray, List.map_cons, List.map_nil]); first | done | rfl | (simp only [List.length_drop, List.length_take]; rfl)) ?_; (with_reducible refine (spec_leNumber.calls a0 true _ A2.out).mono ?_); rintro e w' ⟨rfl, ⟨nd, rfl⟩⟩; refine ⟨_, rfl, ?_⟩) | ((with_reducible refine gate_callee (f := 17) rfl ?_); refine goesL_ (some 11) rfl rfl Tryd.func17 (by kernel_rfl) rfl #[.int .i64 a0] rfl (by (try simp only [List.map_toArray, List.map_cons, List.map_nil]); first | done | rfl | (simp only [List.length_drop, List.length_take]; rfl)) ?_; (with_reducible refine (spec_leList.calls k a0 t102 _ A4.out).mono ?_); rintro e w14 ⟨v103, rfl, ho0, hb⟩; refine ⟨_, rfl, ?_⟩; have n0_ := Aside0.mk (Kd.R_lower ho0 (below_size (by repeat (first | (with_reducible first | exact HB.out | apply below_alloc | apply pw_below_drewN | apply below_drew1) | exact HB.out)))); have n1_ := Aside0.mk (below_step (by repeat (first | (with_reducible first | exact HB.out | apply below_alloc | apply pw_below_drewN | apply below_drew1) | exact HB.out)) hb); clear HB; have HO104 := n0_; have HB := n1_; clear n0_ n1_; (try clear hb); (try clear hb2); (try clear hk); (try clear hi); (try clear ho0); obtain ⟨Ao15, co15, eo15⟩ := Kd.R_slice HO104.out; subst eo15) | ((with_reducible refine gate_callee (f := 16) rfl ?_); refine goesL_ (some 12) rfl rfl Tryd.func16 (by kernel_rfl) rfl #[.slice Ao15 t102.length co15, .bool false] rfl (by (try simp only [List.map_toArray, List.map_cons, List.map_nil]); first | done | rfl | (simp only [List.length_drop, List.length_take]; rfl)) ?_; (with_reducible refine (spec_leTurn.calls k _ _ t102 false t105 true _ ?side1 ?side2 A5.out).mono ?_); (case side1 => repeat (first | exact (Kd.R_reads' HO104.out).2.2 | (with_reducible refine Kd.C_alloc ?_ _) | (with_reducible refine Kd.C_drewN ?_ _) | (with_reducible refine Kd.C_drew ?_))); (case side2 => exact (Kd.R_reads' HO104.out).2.1); rintro e w16 ⟨v107, rfl, ho0, hb⟩; refine ⟨_, rfl, ?_⟩; have n0_ := Aside0.mk (Kd.R_elder' (by (with_reducible repeat (first | apply Kd.R_alloc | apply Kd.R_drewN | apply Kd.R_drew)); exact HO104.out) (Kd.R_base ho0) hb); have n1_ := Aside0.mk (Kd.R_lower (Kd.R_new' ho0 (Kd.R_lt (by (with_reducible repeat (first | apply Kd.R_alloc | apply Kd.R_drewN | apply Kd.R_drew)); exact HO104.out))) (below_size (by repeat (first | (with_reducible first | exact HB.out | apply below_alloc | apply pw_below_drewN | apply below_drew1) | exact HB.out)))); have n2_ := Aside0.mk (below_step (by repeat (first | (with_reducible first | exact HB.out | apply below_alloc | apply pw_below_drewN | apply below_drew1) | exact HB.out)) hb); clear HO104; clear HB; have HO104 := n0_; have HO108 := n1_; have HB := n2_; clear n0_ n1_ n2_; (try clear hb); (try clear hb2); (try clear hk); (try clear hi); (try clear ho0); obtain ⟨Ao17, co17, eo17⟩ := Kd.R_slice HO108.out; subst eo17; have p109 : 0 ≤ (0 : Int) := (by omega); have q109 : 0 < (t105.length : Int) := of_decide_eq_true (by first | (with_reducible assumption) | assumption); obtain ⟨ad109, e109, hx109_0⟩ := Kd.at_int (Kd.R_reads' HO108.out).2.2 0 p109 q109; cases e109; have qi109 : (0 < t105.length) = True := eq_true (by omega); (try rw [show ((0 : Int)).toNat = 0 from rfl] at hx109_0); (try rw [Addr.add_zero'] at hx109_0); replace p109 := eq_true p109; replace q109 := eq_true q109) | ((with_reducible refine gate_callee (f := 18) rfl ?_); refine goesL_ (some 24) rfl rfl Tryd.func18 (by kernel_rfl) rfl #[.slice (some ad109) t105.length co17] rfl (by (try simp only [List.map_toArray, List.map_cons, List.map_nil]); first | done | rfl | (simp only [List.length_drop, List.length_take]; rfl)) ?_; (with_reducible refine (spec_leOf.calls k _ _ t105 t110 _ ?side1 ?side2 A13.out).mono ?_); (case side1 => repeat (first | exact (Kd.R_reads' HO108.out).2.2 | (with_reducible refine Kd.C_alloc ?_ _) | (with_reducible refine Kd.C_drewN ?_ _) | (with_reducible refine Kd.C_drew ?_))); (case side2 => exact (Kd.R_reads' HO108.out).2.1); rintro e w' ⟨rfl, ⟨nd, rfl⟩⟩; refine ⟨_, rfl, ?_⟩))
          go_ret2
          exact ⟨by first | rfl | (simp [errW_none, errW_some] <;> rfl) | (simp [*, errW_none, errW_some] <;> rfl), by repeat (first | (with_reducible first | exact HB.out | apply below_alloc | apply pw_below_drewN | apply below_drew1) | exact HB.out)⟩
      · rw [if_neg c7] at H
        exact absurd H (by simp)
    · replace c6 := Bool.eq_false_iff.mpr c6
      subst c6
      have H1 : (some (0, false)) = some (r1, r2) := by rw [if_neg (show ¬ (false = true) by decide)] at H; exact H
      clear H
      have H := H1
      clear H1
      simp only [Option.some.injEq, Prod.mk.injEq] at H
      obtain ⟨rfl, rfl⟩ := H
      go_enter Tryd.func7, Tryd.ntmps7
      go_wp2_with (first | ((with_reducible refine gate_callee (f := 15) rfl ?_); refine goesL_ (some 7) rfl rfl Tryd.func15 (by kernel_rfl) rfl #[.int .i64 a0] rfl (by (try simp only [List.map_toArray, List.map_cons, List.map_nil]); first | done | rfl | (simp only [List.length_drop, List.length_take]; rfl)) ?_; (with_reducible refine (spec_leNumber.calls a0 true _ A2.out).mono ?_); rintro e w' ⟨rfl, ⟨nd, rfl⟩⟩; refine ⟨_, rfl, ?_⟩) | ((with_reducible refine gate_callee (f := 17) rfl ?_); refine goesL_ (some 11) rfl rfl Tryd.func17 (by kernel_rfl) rfl #[.int .i64 a0] rfl (by (try simp only [List.map_toArray, List.map_cons, List.map_nil]); first | done | rfl | (simp only [List.length_drop, List.length_take]; rfl)) ?_; (with_reducible refine (spec_leList.calls k a0 t102 _ A4.out).mono ?_); rintro e w18 ⟨v103, rfl, ho0, hb⟩; refine ⟨_, rfl, ?_⟩; have n0_ := Aside0.mk (Kd.R_lower ho0 (below_size (by repeat (first | (with_reducible first | exact HB.out | apply below_alloc | apply pw_below_drewN | apply below_drew1) | exact HB.out)))); have n1_ := Aside0.mk (below_step (by repeat (first | (with_reducible first | exact HB.out | apply below_alloc | apply pw_below_drewN | apply below_drew1) | exact HB.out)) hb); clear HB; have HO104 := n0_; have HB := n1_; clear n0_ n1_; (try clear hb); (try clear hb2); (try clear hk); (try clear hi); (try clear ho0); obtain ⟨Ao19, co19, eo19⟩ := Kd.R_slice HO104.out; subst eo19) | ((with_reducible refine gate_callee (f := 16) rfl ?_); refine goesL_ (some 12) rfl rfl Tryd.func16 (by kernel_rfl) rfl #[.slice Ao19 t102.length co19, .bool false] rfl (by (try simp only [List.map_toArray, List.map_cons, List.map_nil]); first | done | rfl | (simp only [List.length_drop, List.length_take]; rfl)) ?_; (with_reducible refine (spec_leTurn.calls k _ _ t102 false t105 false _ ?side1 ?side2 A5.out).mono ?_); (case side1 => repeat (first | exact (Kd.R_reads' HO104.out).2.2 | (with_reducible refine Kd.C_alloc ?_ _) | (with_reducible refine Kd.C_drewN ?_ _) | (with_reducible refine Kd.C_drew ?_))); (case side2 => exact (Kd.R_reads' HO104.out).2.1); rintro e w20 ⟨v107, rfl, ho0, hb⟩; refine ⟨_, rfl, ?_⟩; have n0_ := Aside0.mk (Kd.R_elder' (by (with_reducible repeat (first | apply Kd.R_alloc | apply Kd.R_drewN | apply Kd.R_drew)); exact HO104.out) (Kd.R_base ho0) hb); have n1_ := Aside0.mk (Kd.R_lower (Kd.R_new' ho0 (Kd.R_lt (by (with_reducible repeat (first | apply Kd.R_alloc | apply Kd.R_drewN | apply Kd.R_drew)); exact HO104.out))) (below_size (by repeat (first | (with_reducible first | exact HB.out | apply below_alloc | apply pw_below_drewN | apply below_drew1) | exact HB.out)))); have n2_ := Aside0.mk (below_step (by repeat (first | (with_reducible first | exact HB.out | apply below_alloc | apply pw_below_drewN | apply below_drew1) | exact HB.out)) hb); clear HO104; clear HB; have HO104 := n0_; have HO108 := n1_; have HB := n2_; clear n0_ n1_ n2_; (try clear hb); (try clear hb2); (try clear hk); (try clear hi); (try clear ho0)))
      go_ret2
      exact ⟨by first | rfl | (simp [errW_none, errW_some] <;> rfl) | (simp [*, errW_none, errW_some] <;> rfl), by repeat (first | (with_reducible first | exact HB.out | apply below_alloc | apply pw_below_drewN | apply below_drew1) | exact HB.out)⟩
  · replace c3 := Bool.eq_false_iff.mpr c3
    subst c3
    have H1 : (some (0, false)) = some (r1, r2) := by rw [if_neg (show ¬ (false = true) by decide)] at H; exact H
    clear H
    have H := H1
    clear H1
    simp only [Option.some.injEq, Prod.mk.injEq] at H
    obtain ⟨rfl, rfl⟩ := H
    go_enter Tryd.func7, Tryd.ntmps7
    go_wp2_with (first | ((with_reducible refine gate_callee (f := 15) rfl ?_); refine goesL_ (some 7) rfl rfl Tryd.func15 (by kernel_rfl) rfl #[.int .i64 a0] rfl (by (try simp only [List.map_toArray, List.map_cons, List.map_nil]); first | done | rfl | (simp only [List.length_drop, List.length_take]; rfl)) ?_; (with_reducible refine (spec_leNumber.calls a0 false _ A2.out).mono ?_); rintro e w' ⟨rfl, ⟨nd, rfl⟩⟩; refine ⟨_, rfl, ?_⟩))
    go_ret2
    exact ⟨by first | rfl | (simp [errW_none, errW_some] <;> rfl) | (simp [*, errW_none, errW_some] <;> rfl), by repeat (first | (with_reducible first | exact HB.out | apply below_alloc | apply pw_below_drewN | apply below_drew1) | exact HB.out)⟩

end Go.Proofs.YtpdcjkiejglaiaaDoor.Q

/- Laid by a program of this session (wip/tools/own_print.py) over the translation of this seat: contracts of the functions that the statement reaches. -/
namespace Go.Proofs.YtpdcjkiejglaiaaDoor.Q
open Go.RowKit Go.Proofs.YtpdcjkiejglaiaaDoorW.PrintWords Go.Proofs.YtpdcjkiejglaiaaDoorW.PrintLast Go.Proofs.YtpdcjkiejglaiaaDoorW.PrintMore
attribute [local go_sem] max2_int min2_int max_two min_two max_three min_three max_four min_four   -- for this text's walks alone
set_option linter.unusedVariables false
set_option linter.unusedSimpArgs false

/-! ### laws_FnExactLastSameDigits: function 3 -/
def laws_FnExactLastSameDigits.f (k : Nat) (a0 : Int) : Option (Bool) := (spec_LastSameDigits.f k a0).bind fun bt101 => ((impl_LastSameDigits.f a0).bind fun bt103 => (if bt103.1 = bt101.1 then (if (bt103.2 != bt101.2) = true then (some false) else (some true)) else (some false)))
theorem laws_FnExactLastSameDigits.mono : ∀ a0 k, LeO (laws_FnExactLastSameDigits.f k a0) (laws_FnExactLastSameDigits.f (k + 1) a0) := by
  intro a0 k
  unfold laws_FnExactLastSameDigits.f
  repeat' first
      | (with_reducible exact spec_LastSameDigits.mono _ _)
      | (with_reducible exact LeO.refl _)
      | (with_reducible exact LeO.none _)
      | (with_reducible refine LeO.ite ?_ ?_)
      | (with_reducible refine LeO.bind ?_ (fun _ => ?_))
      | exact spec_LastSameDigits.mono _ _
      | exact LeO.none _
      | refine LeO.ite ?_ ?_
      | refine LeO.bind ?_ (fun _ => ?_)
set_option maxHeartbeats 8000000 in
set_option maxRecDepth 100000 in
theorem laws_FnExactLastSameDigits.calls (k : Nat) (a0 : Int) (r : Bool) (w : World) (T0 : Tab w) (h : laws_FnExactLastSameDigits.f k a0 = some r) :
    Calls Tryd.prog 3 #[.int .i64 a0] w fun e w' => e = .returned (.bool r) ∧ Below w.heap.size w w' := by
  have T := Aside0.mk T0
  clear T0
  have HB := Aside0.mk (Below.refl w.heap.size w)
  have H : ((spec_LastSameDigits.f k a0).bind fun bt101 => ((impl_LastSameDigits.f a0).bind fun bt103 => (if bt103.1 = bt101.1 then (if (bt103.2 != bt101.2) = true then (some false) else (some true)) else (some false)))) = some r := h
  clear h
  replace H := Option.bind_eq_some_iff.mp H
  obtain ⟨⟨t101, t102⟩, A20, H⟩ := H
  replace H : ((impl_LastSameDigits.f a0).bind fun bt103 => (if bt103.1 = t101 then (if (bt103.2 != t102) = true then (some false) else (some true)) else (some false))) = some r := H
  have A2 := Aside0.mk A20
  clear A20
  replace H := Option.bind_eq_some_iff.mp H
  obtain ⟨⟨t103, t104⟩, A30, H⟩ := H
  replace H : (if t103 = t101 then (if (t104 != t102) = true then (some false) else (some true)) else (some false)) = some r := H
  have A3 := Aside0.mk A30
  clear A30
  by_cases c4 : t103 = t101
  · rw [if_pos c4] at H
    have c4b0 : (t103 == t101) = true := beq_iff_eq.mpr c4
    have c4b1 : (t103 != t101) = false := bne_eq_false_iff_eq.mpr c4
    clear c4
    by_cases c5 : (t104 != t102) = true
    · rw [if_pos c5] at H
      have c5b0 : (t104 != t102) = true := c5
      (try (have c5b1 : decide (t104 = t102) = false := by simpa using c5))
      (try (have c5b2 : (t104 == t102) = false := by simpa using c5))
      (try (have c5b3 : ¬ (t104 = t102) := by simpa using c5))
      clear c5
      obtain rfl := Option.some.inj H
      go_enter Tryd.func3, Tryd.ntmps3
      go_wp2_with (first | ((with_reducible refine gate_callee (f := 7) rfl ?_); refine goesL_ (some 9) rfl rfl Tryd.func7 (by kernel_rfl) rfl #[.int .i64 a0] rfl (by (try simp only [List.map_toArray, List.map_cons, List.map_nil]); first | done | rfl | (simp only [List.length_drop, List.length_take]; rfl)) ?_; (with_reducible refine (spec_LastSameDigits.calls k a0 t101 t102 _ A2.out).mono ?_); rintro e w6 ⟨rfl, hb⟩; refine ⟨_, rfl, ?_⟩; have n0_ := Aside0.mk (below_step (by repeat (first | (with_reducible first | exact HB.out | apply below_alloc | apply pw_below_drewN | apply below_drew1) | exact HB.out)) hb); clear HB; have HB := n0_; clear n0_; (try clear hb); (try clear hb2); (try clear hk); (try clear hi)) | ((with_reducible refine gate_callee (f := 8) rfl ?_); refine goesL_ (some 14) rfl rfl Tryd.func8 (by kernel_rfl) rfl #[.int .i64 a0] rfl (by (try simp only [List.map_toArray, List.map_cons, List.map_nil]); first | done | rfl | (simp only [List.length_drop, List.length_take]; rfl)) ?_; (with_reducible refine (impl_LastSameDigits.calls a0 t103 t104 _ (T.out.below (by repeat (first | (with_reducible first | exact HB.out | exact Below.refl _ _ | apply below_alloc | apply pw_below_drewN | apply below_drew1) | exact HB.out | exact Below.refl _ _))) A3.out).mono ?_); rintro e w7 ⟨rfl, hb⟩; refine ⟨_, rfl, ?_⟩; have n0_ := Aside0.mk (below_step (by repeat (first | (with_reducible first | exact HB.out | apply below_alloc | apply pw_below_drewN | apply below_drew1) | exact HB.out)) hb); clear HB; have HB := n0_; clear n0_; (try clear hb); (try clear hb2); (try clear hk); (try clear hi)))
      go_ret
      exact ⟨by first | rfl | (simp [errW_none, errW_some] <;> rfl) | (simp [*, errW_none, errW_some] <;> rfl), by repeat (first | (with_reducible first | exact HB.out | apply below_alloc | apply pw_below_drewN | apply below_drew1) | exact HB.out)⟩
    · rw [if_neg c5] at H
      have c5b0 : (t104 != t102) = false := by simpa using c5
      (try (have c5b1 : decide (t104 = t102) = true := by simpa using c5))
      (try (have c5b2 : (t104 == t102) = true := by simpa using c5))
      clear c5
      obtain rfl := Option.some.inj H
      go_enter Tryd.func3, Tryd.ntmps3
      go_wp2_with (first | ((with_reducible refine gate_callee (f := 7) rfl ?_); refine goesL_ (some 9) rfl rfl Tryd.func7 (by kernel_rfl) rfl #[.int .i64 a0] rfl (by (try simp only [List.map_toArray, List.map_cons, List.map_nil]); first | done | rfl | (simp only [List.length_drop, List.length_take]; rfl)) ?_; (with_reducible refine (spec_LastSameDigits.calls k a0 t101 t102 _ A2.out).mono ?_); rintro e w8 ⟨rfl, hb⟩; refine ⟨_, rfl, ?_⟩; have n0_ := Aside0.mk (below_step (by repeat (first | (with_reducible first | exact HB.out | apply below_alloc | apply pw_below_drewN | apply below_drew1) | exact HB.out)) hb); clear HB; have HB := n0_; clear n0_; (try clear hb); (try clear hb2); (try clear hk); (try clear hi)) | ((with_reducible refine gate_callee (f := 8) rfl ?_); refine goesL_ (some 14) rfl rfl Tryd.func8 (by kernel_rfl) rfl #[.int .i64 a0] rfl (by (try simp only [List.map_toArray, List.map_cons, List.map_nil]); first | done | rfl | (simp only [List.length_drop, List.length_take]; rfl)) ?_; (with_reducible refine (impl_LastSameDigits.calls a0 t103 t104 _ (T.out.below (by repeat (first | (with_reducible first | exact HB.out | exact Below.refl _ _ | apply below_alloc | apply pw_below_drewN | apply below_drew1) | exact HB.out | exact Below.refl _ _))) A3.out).mono ?_); rintro e w9 ⟨rfl, hb⟩; refine ⟨_, rfl, ?_⟩; have n0_ := Aside0.mk (below_step (by repeat (first | (with_reducible first | exact HB.out | apply below_alloc | apply pw_below_drewN | apply below_drew1) | exact HB.out)) hb); clear HB; have HB := n0_; clear n0_; (try clear hb); (try clear hb2); (try clear hk); (try clear hi)))
      go_ret
      exact ⟨by first | rfl | (simp [errW_none, errW_some] <;> rfl) | (simp [*, errW_none, errW_some] <;> rfl), by repeat (first | (with_reducible first | exact HB.out | apply below_alloc | apply pw_below_drewN | apply below_drew1) | exact HB.out)⟩
  · rw [if_neg c4] at H
    have c4b0 : (t103 == t101) = false := beq_eq_false_iff_ne.mpr c4
    have c4b1 : (t103 != t101) = true := bne_iff_ne.mpr c4
    obtain rfl := Option.some.inj H
    go_enter Tryd.func3, Tryd.ntmps3
    go_wp2_with (first | ((with_reducible refine gate_callee (f := 7) rfl ?_); refine goesL_ (some 9) rfl rfl Tryd.func7 (by kernel_rfl) rfl #[.int .i64 a0] rfl (by (try simp only [List.map_toArray, List.map_cons, List.map_nil]); first | done | rfl | (simp only [List.length_drop, List.length_take]; rfl)) ?_; (with_reducible refine (spec_LastSameDigits.calls k a0 t101 t102 _ A2.out).mono ?_); rintro e w10 ⟨rfl, hb⟩; refine ⟨_, rfl, ?_⟩; have n0_ := Aside0.mk (below_step (by repeat (first | (with_reducible first | exact HB.out | apply below_alloc | apply pw_below_drewN | apply below_drew1) | exact HB.out)) hb); clear HB; have HB := n0_; clear n0_; (try clear hb); (try clear hb2); (try clear hk); (try clear hi)) | ((with_reducible refine gate_callee (f := 8) rfl ?_); refine goesL_ (some 14) rfl rfl Tryd.func8 (by kernel_rfl) rfl #[.int .i64 a0] rfl (by (try simp only [List.map_toArray, List.map_cons, List.map_nil]); first | done | rfl | (simp only [List.length_drop, List.length_take]; rfl)) ?_; (with_reducible refine (impl_LastSameDigits.calls a0 t103 t104 _ (T.out.below (by repeat (first | (with_reducible first | exact HB.out | exact Below.refl _ _ | apply below_alloc | apply pw_below_drewN | apply below_drew1) | exact HB.out | exact Below.refl _ _))) A3.out).mono ?_); rintro e w11 ⟨rfl, hb⟩; refine ⟨_, rfl, ?_⟩; have n0_ := Aside0.mk (below_step (by repeat (first | (with_reducible first | exact HB.out | apply below_alloc | apply pw_below_drewN | apply below_drew1) | exact HB.out)) hb); clear HB; have HB := n0_; clear n0_; (try clear hb); (try clear hb2); (try clear hk); (try clear hi)))
    go_ret
    exact ⟨by first | rfl | (simp [errW_none, errW_some] <;> rfl) | (simp [*, errW_none, errW_some] <;> rfl), by repeat (first | (with_reducible first | exact HB.out | apply below_alloc | apply pw_below_drewN | apply below_drew1) | exact HB.out)⟩

/-- THE ONE PURE STATEMENT of laws_FnExactLastSameDigits: yours. -/
def laws_FnExactLastSameDigits.Pure : Prop := ∀ (a0 : Int), (Lit.int .i64 a0).wf = true → ∃ k, laws_FnExactLastSameDigits.f k a0 = some true
theorem laws_FnExactLastSameDigits.walk (P : laws_FnExactLastSameDigits.Pure) (a0 : Int) (w : World) (T0 : Tab w) (w0 : (Lit.int .i64 a0).wf = true) :
    Calls Tryd.prog 3 #[.int .i64 a0] w fun e w' => e = .returned (.bool true) ∧ Below w.heap.size w w' := by
  obtain ⟨k, h⟩ := P a0 w0
  refine (laws_FnExactLastSameDigits.calls k a0 true w T0 h).mono ?_
  rintro e w' ⟨rfl, hd⟩
  exact ⟨rfl, hd⟩

end Go.Proofs.YtpdcjkiejglaiaaDoor.Q

/-
  The reference's turn to the next, or the last, order of digits is the program's step.
-/
namespace Go.Proofs.YtpdcjkiejglaiaaDoor.Q
open Go.RowKit Go.Proofs.YtpdcjkiejglaiaaDoorW.PrintWords Go.Proofs.YtpdcjkiejglaiaaDoorW.PrintLast Go.Proofs.YtpdcjkiejglaiaaDoorW.PrintMore
set_option linter.unusedVariables false
set_option linter.unusedSimpArgs false

theorem rd_get (xs : List Int) (i : Nat) (h : i < xs.length) : xs[i]? = some (rd xs (i : Int)) := by
  unfold rd
  simp [List.getD_eq_getElem?_getD, h]
theorem rd_arr (xs : List Int) (i : Nat) (h : i < xs.length) : xs.toArray[i]! = rd xs (i : Int) := by
  rw [getElem!_pos _ i (by simpa using h)]
  simp [rd, List.getD_eq_getElem?_getD, h]
theorem turn_of {l xs : List Int} {a i j : Nat} (ha : a ≤ l.length) (hlen : xs.length = l.length) (hij : i + j + 1 = a + l.length) (hai : a ≤ i) (hle : j ≤ i)
    (hpre : ∀ t, t < a → xs[t]? = l[t]?) (hlo : ∀ t, a ≤ t → t < i → xs[t]? = l[a + l.length - 1 - t]?) (hhi : ∀ t, a ≤ t → j < t → t < l.length → xs[t]? = l[a + l.length - 1 - t]?) (hmid : ∀ t, i ≤ t → t ≤ j → xs[t]? = l[t]?) : xs = turnTail l.toArray a := by
  have hz : (l.take a).length = a := by rw [List.length_take]; omega
  unfold turnTail
  apply List.ext_getElem?
  intro t
  show xs[t]? = (l.take a ++ (l.drop a).reverse)[t]?
  by_cases ht : t < l.length
  · by_cases h0 : t < a
    · rw [List.getElem?_append_left (by omega), hpre t h0, List.getElem?_take_of_lt h0]
    · rw [List.getElem?_append_right (by omega), hz, List.getElem?_reverse (by rw [List.length_drop]; omega), List.getElem?_drop, List.length_drop]
      have e : a + (l.length - a - 1 - (t - a)) = a + l.length - 1 - t := by omega
      rw [e]
      by_cases h1 : t < i
      · exact hlo t (by omega) h1
      · by_cases h2 : j < t
        · exact hhi t (by omega) h2 ht
        · rw [hmid t (by omega) (by omega)]
          congr 1
          omega
  · rw [List.getElem?_eq_none (by omega), List.getElem?_eq_none (by simp; omega)]
theorem turnT_loop (l : List Int) (a : Nat) (ha : a ≤ l.length) (ha1 : 1 ≤ a) (hl : l.length ≤ 1000) : ∀ (d : Nat) (xs : List Int) (i j : Nat), j ≤ i + d → xs.length = l.length → i + j + 1 = a + l.length → a ≤ i →
    (∀ t, t < a → xs[t]? = l[t]?) → (∀ t, a ≤ t → t < i → xs[t]? = l[a + l.length - 1 - t]?) → (∀ t, a ≤ t → j < t → t < l.length → xs[t]? = l[a + l.length - 1 - t]?) → (∀ t, i ≤ t → t ≤ j → xs[t]? = l[t]?) →
    Ev (fun k => spec_leTurn.l2 k xs (i : Int) (j : Int)) (turnTail l.toArray a, true) := by
  intro d
  induction d using Nat.strongRecOn with
  | _ d ih =>
    intro xs i j hd hlen hij hai hpre hlo hhi hmid
    by_cases hlt : i < j
    · have hi : i < xs.length := by omega
      have hj : j < xs.length := by omega
      have gi := rd_get xs i hi
      have gj := rd_get xs j hj
      have step : ∀ k, spec_leTurn.l2 (k + 1) xs (i : Int) (j : Int) = spec_leTurn.l2 k ((xs.set i (rd xs (j : Int))).set j (rd xs (i : Int))) ((i + 1 : Nat) : Int) ((j - 1 : Nat) : Int) := by
        intro k
        have e1 : wrap64 ((i : Int) + 1) = ((i + 1 : Nat) : Int) := by rw [wrap_id (by omega) (by omega)]; rfl
        have e2 : wrap64 ((j : Int) - 1) = ((j - 1 : Nat) : Int) := by rw [wrap_id (by omega) (by omega)]; omega
        simp only [spec_leTurn.l2, e1, e2]
        rw [if_pos (by omega), if_pos (by omega), if_pos (by omega), if_pos (by omega), if_pos (by omega)]
        rfl
      refine Ev.step step (ih (d - 1) (by omega) _ (i + 1) (j - 1) (by omega) (by simp [hlen]) (by omega) (by omega) ?_ ?_ ?_ ?_)
      · intro t ht
        rw [List.getElem?_set_ne (by omega), List.getElem?_set_ne (by omega)]
        exact hpre t ht
      · intro t h0 ht
        by_cases e : t = i
        · subst e
          rw [List.getElem?_set_ne (by omega), List.getElem?_set_self hi, ← gj, hmid j (by omega) (by omega)]
          congr 1
          omega
        · rw [List.getElem?_set_ne (by omega), List.getElem?_set_ne (by omega)]
          exact hlo t h0 (by omega)
      · intro t h0 h1 h2
        by_cases e : t = j
        · subst e
          rw [List.getElem?_set_self (by simpa using hj), ← gi, hmid i (by omega) (by omega)]
          congr 1
          omega
        · rw [List.getElem?_set_ne (by omega), List.getElem?_set_ne (by omega)]
          exact hhi t h0 (by omega) h2
      · intro t h1 h2
        rw [List.getElem?_set_ne (by omega), List.getElem?_set_ne (by omega)]
        exact hmid t (by omega) (by omega)
    · refine Ev.step (f := fun _ => some (xs, true)) (fun k => ?_) (Ev.eq (Ev.now _) (by rw [turn_of ha hlen hij hai (by omega) hpre hlo hhi hmid]))
      simp only [spec_leTurn.l2]
      rw [if_neg (by omega)]
theorem swp_list (l : List Int) (i j : Nat) (hi : i < l.length) (hj : j < l.length) : Sort.swp l.toArray i j = ((l.set i (rd l (j : Int))).set j (rd l (i : Int))).toArray := by
  unfold Sort.swp
  rw [rd_arr l j hj, rd_arr l i hi]
  simp
theorem bef_next (x y : Int) : bef (!true) x y = decide (x < y) := by
  unfold bef
  by_cases h : x = y
  · subst h; simp
  · simp [h]
theorem bef_last (x y : Int) : bef (!false) x y = decide (y < x) := by
  unfold bef
  by_cases h : x = y
  · subst h; simp
  · by_cases h2 : x < y
    · simp [h, h2]; omega
    · simp [h, h2]; omega

/-- the place to change with, and the turn behind -/
theorem l1_ev (nx : Bool) (l : List Int) (hl : l.length ≤ 1000) (i j : Nat) (hi : i + 1 < l.length) : ∀ m, m ≤ l.length → lastBe (bef (!nx)) l.toArray l.toArray[i]! m = some j →
    Ev (fun k => spec_leTurn.l1 k nx l (i : Int) ((m : Int) - 1)) (turnTail (Sort.swp l.toArray i j) (i + 1), true)
  | 0, hm, h => by simp [lastBe] at h
  | m + 1, hm, h => by
    have em : (((m + 1 : Nat) : Int) - 1) = (m : Int) := by omega
    rw [em]
    have ri := rd_arr l i (by omega)
    have rm := rd_arr l m (by omega)
    simp only [lastBe] at h
    rw [ri, rm] at h
    by_cases c : bef (!nx) (rd l (i : Int)) (rd l (m : Int)) = true
    · rw [if_pos c] at h
      obtain rfl := Option.some.inj h
      have e1 : wrap64 ((i : Int) + 1) = ((i + 1 : Nat) : Int) := by rw [wrap_id (by omega) (by omega)]; rfl
      have e2 : wrap64 ((l.length : Int) - 1) = ((l.length - 1 : Nat) : Int) := by rw [wrap_id (by omega) (by omega)]; omega
      have tl := turnT_loop ((l.set i (rd l (m : Int))).set m (rd l (i : Int))) (i + 1) (by simp; omega) (by omega) (by simpa using hl) l.length ((l.set i (rd l (m : Int))).set m (rd l (i : Int))) (i + 1) (l.length - 1) (by omega) rfl (by simp; omega) (by omega) (fun t _ => rfl) (fun t h1 h2 => by omega) (fun t h0 h1 h2 => by simp at h2; omega) (fun t _ _ => rfl)
      rw [← swp_list l i m (by omega) (by omega)] at tl
      have j3 : Ev (fun k => spec_leTurn.j3 k l (i : Int) (m : Int)) (turnTail (Sort.swp l.toArray i m) (i + 1), true) := by
        refine Ev.step (fun k => ?_) tl
        simp only [spec_leTurn.j3]
        rw [if_pos (by omega), if_pos (by omega), if_pos (by omega), if_pos (by omega), e1, e2]
        rfl
      refine Ev.step (fun k => ?_) j3
      cases nx
      · rw [bef_last, decide_eq_true_eq] at c
        simp only [spec_leTurn.l1]
        rw [if_neg (by decide), if_pos (by omega), if_pos (by omega), if_pos (by omega), if_pos (by omega), if_neg (by omega)]
      · rw [bef_next, decide_eq_true_eq] at c
        simp only [spec_leTurn.l1]
        rw [if_pos trivial, if_pos (by omega), if_pos (by omega), if_pos (by omega), if_pos (by omega), if_neg (by omega)]
    · rw [if_neg c] at h
      have ih := l1_ev nx l hl i j hi m (by omega) (by rw [ri]; exact h)
      have e3 : wrap64 ((m : Int) - 1) = (m : Int) - 1 := by rw [wrap_id (by omega) (by omega)]
      rw [← e3] at ih
      refine Ev.step (fun k => ?_) ih
      cases nx
      · rw [bef_last, decide_eq_true_eq] at c
        simp only [spec_leTurn.l1]
        rw [if_neg (by decide), if_pos (by omega), if_pos (by omega), if_pos (by omega), if_pos (by omega), if_pos (by omega)]
      · rw [bef_next, decide_eq_true_eq] at c
        simp only [spec_leTurn.l1]
        rw [if_pos trivial, if_pos (by omega), if_pos (by omega), if_pos (by omega), if_pos (by omega), if_pos (by omega)]
def turned (o : Option (List Int)) : List Int × Bool := match o with
  | none => ([], false)
  | some l => (l, true)
def stepFrom (b : Int → Int → Bool) (d : Array Int) (k : Nat) : Option (List Int) :=
  match lastUp b d k with
  | none => none
  | some i => match lastBe b d d[i]! d.size with
    | none => none
    | some j => some (turnTail (Sort.swp d i j) (i + 1))
theorem l0_ev (nx : Bool) (l : List Int) (hl : l.length ≤ 1000) : ∀ k, k + 1 ≤ l.length → Ev (fun n => spec_leTurn.l0 n nx l ((k : Int) - 1)) (turned (stepFrom (bef (!nx)) l.toArray k))
  | 0, hk => by
    refine Ev.step (f := fun _ => some ([], false)) (fun n => ?_) (Ev.now _)
    simp only [spec_leTurn.l0]
    rw [if_neg (by omega)]
  | k + 1, hk => by
    have em : (((k + 1 : Nat) : Int) - 1) = (k : Int) := by omega
    rw [em]
    have rk := rd_arr l k (by omega)
    have rk1 := rd_arr l (k + 1) (by omega)
    have e1 : wrap64 ((k : Int) + 1) = ((k + 1 : Nat) : Int) := by rw [wrap_id (by omega) (by omega)]; rfl
    have e3 : wrap64 ((k : Int) - 1) = (k : Int) - 1 := by rw [wrap_id (by omega) (by omega)]
    have e4 : wrap64 ((l.length : Int) - 1) = (l.length : Int) - 1 := by rw [wrap_id (by omega) (by omega)]
    by_cases c : bef (!nx) (rd l (k : Int)) (rd l ((k + 1 : Nat) : Int)) = true
    · have hs : lastUp (bef (!nx)) l.toArray (k + 1) = some k := by
        simp only [lastUp]
        rw [rk, rk1, if_pos c]
      obtain ⟨j, hj, _, _⟩ := lastBe_some (bef (!nx)) l.toArray l.toArray[k]! (k + 1) (by rw [rk, rk1]; exact c) l.length (by omega)
      have he : stepFrom (bef (!nx)) l.toArray (k + 1) = some (turnTail (Sort.swp l.toArray k j) (k + 1)) := by
        unfold stepFrom
        rw [hs]
        show (match lastBe (bef (!nx)) l.toArray l.toArray[k]! l.length with | none => none | some j => some (turnTail (Sort.swp l.toArray k j) (k + 1))) = _
        rw [hj]
      rw [he]
      have h1 := l1_ev nx l hl k j (by omega) l.length (Nat.le_refl _) hj
      rw [← e4] at h1
      have j1 : Ev (fun n => spec_leTurn.j1 n nx l (k : Int) false) (turnTail (Sort.swp l.toArray k j) (k + 1), true) := by
        refine Ev.step (fun n => ?_) h1
        simp only [spec_leTurn.j1]
        rw [if_neg (by decide)]
      refine Ev.step (fun n => ?_) j1
      cases nx
      · rw [bef_last, decide_eq_true_eq] at c
        simp only [spec_leTurn.l0]
        rw [if_pos (by omega), if_neg (by decide), if_pos (by omega), if_pos (by omega), e1, if_pos (by omega), if_pos (by omega), decide_eq_false (by omega)]
      · rw [bef_next, decide_eq_true_eq] at c
        simp only [spec_leTurn.l0]
        rw [if_pos (by omega), if_pos trivial, if_pos (by omega), if_pos (by omega), e1, if_pos (by omega), if_pos (by omega), if_neg (by omega)]
    · have hs : stepFrom (bef (!nx)) l.toArray (k + 1) = stepFrom (bef (!nx)) l.toArray k := by
        unfold stepFrom
        simp only [lastUp]
        rw [rk, rk1, if_neg c]
      rw [hs]
      have ih := l0_ev nx l hl k (by omega)
      rw [← e3] at ih
      have j1 : Ev (fun n => spec_leTurn.j1 n nx l (k : Int) true) (turned (stepFrom (bef (!nx)) l.toArray k)) := by
        refine Ev.step (fun n => ?_) ih
        simp only [spec_leTurn.j1]
        rw [if_pos trivial]
      refine Ev.step (fun n => ?_) j1
      cases nx
      · rw [bef_last, decide_eq_true_eq] at c
        simp only [spec_leTurn.l0]
        rw [if_pos (by omega), if_neg (by decide), if_pos (by omega), if_pos (by omega), e1, if_pos (by omega), if_pos (by omega), decide_eq_true (by omega)]
      · rw [bef_next, decide_eq_true_eq] at c
        simp only [spec_leTurn.l0]
        rw [if_pos (by omega), if_pos trivial, if_pos (by omega), if_pos (by omega), e1, if_pos (by omega), if_pos (by omega), if_pos (by omega)]
theorem leTurn_ev (nx : Bool) (l : List Int) (h1 : 1 ≤ l.length) (hl : l.length ≤ 1000) : Ev (fun k => spec_leTurn.f k l nx) (turned (stepA (bef (!nx)) l.toArray)) := by
  unfold spec_leTurn.f spec_l1Own.f
  simp only [Option.bind_some]
  rw [if_pos (by simp; omega)]
  simp only [Option.bind_some, List.nil_append]
  have e : wrap64 ((l.length : Int) - 2) = ((l.length - 1 : Nat) : Int) - 1 := by rw [wrap_id (by omega) (by omega)]; omega
  rw [e]
  exact l0_ev nx l hl (l.length - 1) (by omega)

end Go.Proofs.YtpdcjkiejglaiaaDoor.Q

/- Laid by a program of this session (wip/tools/own_print.py) over the translation of this seat: contracts of the functions that the statement reaches. -/
namespace Go.Proofs.YtpdcjkiejglaiaaDoor.Q
open Go.RowKit Go.Proofs.YtpdcjkiejglaiaaDoorW.PrintWords Go.Proofs.YtpdcjkiejglaiaaDoorW.PrintLast Go.Proofs.YtpdcjkiejglaiaaDoorW.PrintMore
attribute [local go_sem] max2_int min2_int max_two min_two max_three min_three max_four min_four   -- for this text's walks alone
set_option linter.unusedVariables false
set_option linter.unusedSimpArgs false

/-! ### spec_NextSameDigits: function 9 -/
def spec_NextSameDigits.f (k : Nat) (a0 : Int) : Option (Int × Bool) := (spec_leNumber.f a0).bind fun t101 => (if t101 = true then ((spec_leList.f k a0).bind fun t102 => ((spec_leTurn.f k t102 true).bind fun bt105 => (if bt105.2 = true then ((spec_leOf.f k bt105.1).bind fun t109 => (some (t109, true))) else (some (0, false))))) else (some (0, false)))
theorem spec_NextSameDigits.mono : ∀ a0 k, LeO (spec_NextSameDigits.f k a0) (spec_NextSameDigits.f (k + 1) a0) := by
  intro a0 k
  unfold spec_NextSameDigits.f
  repeat' first
      | (with_reducible exact spec_leList.mono _ _)
      | (with_reducible exact spec_leOf.mono _ _)
      | (with_reducible exact spec_leTurn.mono _ _ _)
      | (with_reducible exact LeO.refl _)
      | (with_reducible exact LeO.none _)
      | (with_reducible refine LeO.ite ?_ ?_)
      | (with_reducible refine LeO.bind ?_ (fun _ => ?_))
      | exact spec_leList.mono _ _
      | exact spec_leOf.mono _ _
      | exact spec_leTurn.mono _ _ _
      | exact LeO.none _
      | refine LeO.ite ?_ ?_
      | refine LeO.bind ?_ (fun _ => ?_)
set_option maxHeartbeats 8000000 in
set_option maxRecDepth 100000 in
theorem spec_NextSameDigits.calls (k : Nat) (a0 : Int) (r1 : Int) (r2 : Bool) (w : World) (h : spec_NextSameDigits.f k a0 = some (r1, r2)) :
    Calls Tryd.prog 9 #[.int .i64 a0] w fun e w' => e = .returned (.tuple #[.int .i64 r1, .bool r2]) ∧ Below w.heap.size w w' := by
  have HB := Aside0.mk (Below.refl w.heap.size w)
  have H : ((spec_leNumber.f a0).bind fun t101 => (if t101 = true then ((spec_leList.f k a0).bind fun t102 => ((spec_leTurn.f k t102 true).bind fun bt105 => (if bt105.2 = true then ((spec_leOf.f k bt105.1).bind fun t109 => (some (t109, true))) else (some (0, false))))) else (some (0, false)))) = some (r1, r2) := h
  clear h
  replace H := Option.bind_eq_some_iff.mp H
  obtain ⟨t101, A20, H⟩ := H
  replace H : (if t101 = true then ((spec_leList.f k a0).bind fun t102 => ((spec_leTurn.f k t102 true).bind fun bt105 => (if bt105.2 = true then ((spec_leOf.f k bt105.1).bind fun t109 => (some (t109, true))) else (some (0, false))))) else (some (0, false))) = some (r1, r2) := H
  have A2 := Aside0.mk A20
  clear A20
  by_cases c3 : t101 = true
  · subst c3
    have H1 : ((spec_leList.f k a0).bind fun t102 => ((spec_leTurn.f k t102 true).bind fun bt105 => (if bt105.2 = true then ((spec_leOf.f k bt105.1).bind fun t109 => (some (t109, true))) else (some (0, false))))) = some (r1, r2) := by rw [if_pos rfl] at H; exact H
    clear H
    have H := H1
    clear H1
    replace H := Option.bind_eq_some_iff.mp H
    obtain ⟨t102, A40, H⟩ := H
    replace H : ((spec_leTurn.f k t102 true).bind fun bt105 => (if bt105.2 = true then ((spec_leOf.f k bt105.1).bind fun t109 => (some (t109, true))) else (some (0, false)))) = some (r1, r2) := H
    have A4 := Aside0.mk A40
    clear A40
    replace H := Option.bind_eq_some_iff.mp H
    obtain ⟨⟨t105, t106⟩, A50, H⟩ := H
    replace H : (if t106 = true then ((spec_leOf.f k t105).bind fun t109 => (some (t109, true))) else (some (0, false))) = some (r1, r2) := H
    have A5 := Aside0.mk A50
    clear A50
    by_cases c6 : t106 = true
    · subst c6
      have H1 : ((spec_leOf.f k t105).bind fun t109 => (some (t109, true))) = some (r1, r2) := by rw [if_pos rfl] at H; exact H
      clear H
      have H := H1
      clear H1
      replace H := Option.bind_eq_some_iff.mp H
      obtain ⟨t109, A70, H⟩ := H
      replace H : (some (t109, true)) = some (r1, r2) := H
      have A7 := Aside0.mk A70
      clear A70
      simp only [Option.some.injEq, Prod.mk.injEq] at H
      obtain ⟨rfl, rfl⟩ := H
      go_enter Tryd.func9, Tryd.ntmps9
      go_wp2_with (first | ((with_reducible refine gate_callee (f := 15) rfl ?_); refine goesL_ (some 7) rfl rfl Tryd.func15 (by kernel_rfl) rfl #[.int .i64 a0] rfl (by (try simp only [List.map_toArray, List.map_cons, List.map_nil]); first | done | rfl | (simp only [List.length_drop, List.length_take]; rfl)) ?_; (with_reducible refine (spec_leNumber.calls a0 true _ A2.out).mono ?_); rintro e w' ⟨rfl, ⟨nd, rfl⟩⟩; refine ⟨_, rfl, ?_⟩) | ((with_reducible refine gate_callee (f := 17) rfl ?_); refine goesL_ (some 11) rfl rfl Tryd.func17 (by kernel_rfl) rfl #[.int .i64 a0] rfl (by (try simp only [List.map_toArray, List.map_cons, List.map_nil]); first | done | rfl | (simp only [List.length_drop, List.length_take]; rfl)) ?_; (with_reducible refine (spec_leList.calls k a0 t102 _ A4.out).mono ?_); rintro e w8 ⟨v103, rfl, ho0, hb⟩; refine ⟨_, rfl, ?_⟩; have n0_ := Aside0.mk (Kd.R_lower ho0 (below_size (by repeat (first | (with_reducible first | exact HB.out | apply below_alloc | apply pw_below_drewN | apply below_drew1) | exact HB.out)))); have n1_ := Aside0.mk (below_step (by repeat (first | (with_reducible first | exact HB.out | apply below_alloc | apply pw_below_drewN | apply below_drew1) | exact HB.out)) hb); clear HB; have HO104 := n0_; have HB := n1_; clear n0_ n1_; (try clear hb); (try clear hb2); (try clear hk); (try clear hi); (try clear ho0); obtain ⟨Ao9, co9, eo9⟩ := Kd.R_slice HO104.out; subst eo9) | ((with_reducible refine gate_callee (f := 16) rfl ?_); refine goesL_ (some 12) rfl rfl Tryd.func16 (by kernel_rfl) rfl #[.slice Ao9 t102.length co9, .bool true] rfl (by (try simp only [List.map_toArray, List.map_cons, List.map_nil]); first | done | rfl | (simp only [List.length_drop, List.length_take]; rfl)) ?_; (with_reducible refine (spec_leTurn.calls k _ _ t102 true t105 true _ ?side1 ?side2 A5.out).mono ?_); (case side1 => repeat (first | exact (Kd.R_reads' HO104.out).2.2 | (with_reducible refine Kd.C_alloc ?_ _) | (with_reducible refine Kd.C_drewN ?_ _) | (with_reducible refine Kd.C_drew ?_))); (case side2 => exact (Kd.R_reads' HO104.out).2.1); rintro e w10 ⟨v107, rfl, ho0, hb⟩; refine ⟨_, rfl, ?_⟩; have n0_ := Aside0.mk (Kd.R_elder' (by (with_reducible repeat (first | apply Kd.R_alloc | apply Kd.R_drewN | apply Kd.R_drew)); exact HO104.out) (Kd.R_base ho0) hb); have n1_ := Aside0.mk (Kd.R_lower (Kd.R_new' ho0 (Kd.R_lt (by (with_reducible repeat (first | apply Kd.R_alloc | apply Kd.R_drewN | apply Kd.R_drew)); exact HO104.out))) (below_size (by repeat (first | (with_reducible first | exact HB.out | apply below_alloc | apply pw_below_drewN | apply below_drew1) | exact HB.out)))); have n2_ := Aside0.mk (below_step (by repeat (first | (with_reducible first | exact HB.out | apply below_alloc | apply pw_below_drewN | apply below_drew1) | exact HB.out)) hb); clear HO104; clear HB; have HO104 := n0_; have HO108 := n1_; have HB := n2_; clear n0_ n1_ n2_; (try clear hb); (try clear hb2); (try clear hk); (try clear hi); (try clear ho0); obtain ⟨Ao11, co11, eo11⟩ := Kd.R_slice HO108.out; subst eo11) | ((with_reducible refine gate_callee (f := 18) rfl ?_); refine goesL_ (some 18) rfl rfl Tryd.func18 (by kernel_rfl) rfl #[.slice Ao11 t105.length co11] rfl (by (try simp only [List.map_toArray, List.map_cons, List.map_nil]); first | done | rfl | (simp only [List.length_drop, List.length_take]; rfl)) ?_; (with_reducible refine (spec_leOf.calls k _ _ t105 t109 _ ?side1 ?side2 A7.out).mono ?_); (case side1 => repeat (first | exact (Kd.R_reads' HO108.out).2.2 | (with_reducible refine Kd.C_alloc ?_ _) | (with_reducible refine Kd.C_drewN ?_ _) | (with_reducible refine Kd.C_drew ?_))); (case side2 => exact (Kd.R_reads' HO108.out).2.1); rintro e w' ⟨rfl, ⟨nd, rfl⟩⟩; refine ⟨_, rfl, ?_⟩))
      go_ret2
      exact ⟨by first | rfl | (simp [errW_none, errW_some] <;> rfl) | (simp [*, errW_none, errW_some] <;> rfl), by repeat (first | (with_reducible first | exact HB.out | apply below_alloc | apply pw_below_drewN | apply below_drew1) | exact HB.out)⟩
    · replace c6 := Bool.eq_false_iff.mpr c6
      subst c6
      have H1 : (some (0, false)) = some (r1, r2) := by rw [if_neg (show ¬ (false = true) by decide)] at H; exact H
      clear H
      have H := H1
      clear H1
      simp only [Option.some.injEq, Prod.mk.injEq] at H
      obtain ⟨rfl, rfl⟩ := H
      go_enter Tryd.func9, Tryd.ntmps9
      go_wp2_with (first | ((with_reducible refine gate_callee (f := 15) rfl ?_); refine goesL_ (some 7) rfl rfl Tryd.func15 (by kernel_rfl) rfl #[.int .i64 a0] rfl (by (try simp only [List.map_toArray, List.map_cons, List.map_nil]); first | done | rfl | (simp only [List.length_drop, List.length_take]; rfl)) ?_; (with_reducible refine (spec_leNumber.calls a0 true _ A2.out).mono ?_); rintro e w' ⟨rfl, ⟨nd, rfl⟩⟩; refine ⟨_, rfl, ?_⟩) | ((with_reducible refine gate_callee (f := 17) rfl ?_); refine goesL_ (some 11) rfl rfl Tryd.func17 (by kernel_rfl) rfl #[.int .i64 a0] rfl (by (try simp only [List.map_toArray, List.map_cons, List.map_nil]); first | done | rfl | (simp only [List.length_drop, List.length_take]; rfl)) ?_; (with_reducible refine (spec_leList.calls k a0 t102 _ A4.out).mono ?_); rintro e w12 ⟨v103, rfl, ho0, hb⟩; refine ⟨_, rfl, ?_⟩; have n0_ := Aside0.mk (Kd.R_lower ho0 (below_size (by repeat (first | (with_reducible first | exact HB.out | apply below_alloc | apply pw_below_drewN | apply below_drew1) | exact HB.out)))); have n1_ := Aside0.mk (below_step (by repeat (first | (with_reducible first | exact HB.out | apply below_alloc | apply pw_below_drewN | apply below_drew1) | exact HB.out)) hb); clear HB; have HO104 := n0_; have HB := n1_; clear n0_ n1_; (try clear hb); (try clear hb2); (try clear hk); (try clear hi); (try clear ho0); obtain ⟨Ao13, co13, eo13⟩ := Kd.R_slice HO104.out; subst eo13) | ((with_reducible refine gate_callee (f := 16) rfl ?_); refine goesL_ (some 12) rfl rfl Tryd.func16 (by kernel_rfl) rfl #[.slice Ao13 t102.length co13, .bool true] rfl (by (try simp only [List.map_toArray, List.map_cons, List.map_nil]); first | done | rfl | (simp only [List.length_drop, List.length_take]; rfl)) ?_; (with_reducible refine (spec_leTurn.calls k _ _ t102 true t105 false _ ?side1 ?side2 A5.out).mono ?_); (case side1 => repeat (first | exact (Kd.R_reads' HO104.out).2.2 | (with_reducible refine Kd.C_alloc ?_ _) | (with_reducible refine Kd.C_drewN ?_ _) | (with_reducible refine Kd.C_drew ?_))); (case side2 => exact (Kd.R_reads' HO104.out).2.1); rintro e w14 ⟨v107, rfl, ho0, hb⟩; refine ⟨_, rfl, ?_⟩; have n0_ := Aside0.mk (Kd.R_elder' (by (with_reducible repeat (first | apply Kd.R_alloc | apply Kd.R_drewN | apply Kd.R_drew)); exact HO104.out) (Kd.R_base ho0) hb); have n1_ := Aside0.mk (Kd.R_lower (Kd.R_new' ho0 (Kd.R_lt (by (with_reducible repeat (first | apply Kd.R_alloc | apply Kd.R_drewN | apply Kd.R_drew)); exact HO104.out))) (below_size (by repeat (first | (with_reducible first | exact HB.out | apply below_alloc | apply pw_below_drewN | apply below_drew1) | exact HB.out)))); have n2_ := Aside0.mk (below_step (by repeat (first | (with_reducible first | exact HB.out | apply below_alloc | apply pw_below_drewN | apply below_drew1) | exact HB.out)) hb); clear HO104; clear HB; have HO104 := n0_; have HO108 := n1_; have HB := n2_; clear n0_ n1_ n2_; (try clear hb); (try clear hb2); (try clear hk); (try clear hi); (try clear ho0)))
      go_ret2
      exact ⟨by first | rfl | (simp [errW_none, errW_some] <;> rfl) | (simp [*, errW_none, errW_some] <;> rfl), by repeat (first | (with_reducible first | exact HB.out | apply below_alloc | apply pw_below_drewN | apply below_drew1) | exact HB.out)⟩
  · replace c3 := Bool.eq_false_iff.mpr c3
    subst c3
    have H1 : (some (0, false)) = some (r1, r2) := by rw [if_neg (show ¬ (false = true) by decide)] at H; exact H
    clear H
    have H := H1
    clear H1
    simp only [Option.some.injEq, Prod.mk.injEq] at H
    obtain ⟨rfl, rfl⟩ := H
    go_enter Tryd.func9, Tryd.ntmps9
    go_wp2_with (first | ((with_reducible refine gate_callee (f := 15) rfl ?_); refine goesL_ (some 7) rfl rfl Tryd.func15 (by kernel_rfl) rfl #[.int .i64 a0] rfl (by (try simp only [List.map_toArray, List.map_cons, List.map_nil]); first | done | rfl | (simp only [List.length_drop, List.length_take]; rfl)) ?_; (with_reducible refine (spec_leNumber.calls a0 false _ A2.out).mono ?_); rintro e w' ⟨rfl, ⟨nd, rfl⟩⟩; refine ⟨_, rfl, ?_⟩))
    go_ret2
    exact ⟨by first | rfl | (simp [errW_none, errW_some] <;> rfl) | (simp [*, errW_none, errW_some] <;> rfl), by repeat (first | (with_reducible first | exact HB.out | apply below_alloc | apply pw_below_drewN | apply below_drew1) | exact HB.out)⟩

end Go.Proofs.YtpdcjkiejglaiaaDoor.Q
