/-
  Texts of this claim, joined in their build order: the contracts of the functions that the statement reaches, and plain lemmas.
-/
import Derived.Test.YtpdcjkiejglaiaaDoorJFnExactMilesToKind0
import Derived.BigQuiet
import Derived.Laws.EntriesVeiled
import Derived.Lib.ItoaMem

/-
  'search' and the function that it calls itself by: the first text of so many digits, not before a bound, of which each beginning passes a test. The test is told by a law of its own.
-/
namespace Go.Proofs.YtpdcjkiejglaiaaDoor.Q
open Go.RowKit Go.Proofs.YtpdcjkiejglaiaaDoorW.PrintWords Go.Proofs.YtpdcjkiejglaiaaDoorW.PrintLast Go.Proofs.YtpdcjkiejglaiaaDoorW.PrintMore
set_option linter.unusedVariables false
set_option linter.unusedSimpArgs false

/-- the first of ten -/
def fndK (g : Nat → Option ByteArray) : Nat → Nat → Option ByteArray
  | 0, _ => none
  | r + 1, k => match g k with
    | some x => some x
    | none => fndK g r (k + 1)
def fnd (p : ByteArray → Bool) (bound : ByteArray) : Nat → ByteArray → Bool → Option ByteArray
  | 0, s, _ => some s
  | d + 1, s, t => fndK (fun k => if (t && decide (48 + (k : Int) < bt bound (s.size : Int))) = true then none else if p (s ++ strOfNums [48 + (k : Int)]) = true then fnd p bound d (s ++ strOfNums [48 + (k : Int)]) (t && (48 + (k : Int) == bt bound (s.size : Int))) else none) 10 0

/-- what stands in memory for the search -/
structure SW (w : World) (bb bd bm bf : Nat) (bound : ByteArray) (mv : Value) : Prop where
  h1 : w.heap[bb]? = some (.cells #[.string bound] 9 (0, 0))
  h2 : w.heap[bd]? = some (.cells #[.bool false] 4 (0, 0))
  h3 : w.heap[bm]? = some (.cells #[mv] 37 (0, 0))
  h4 : w.heap[bf]? = some (.cells #[.func (.func 56) #[] #[.pointer (some ⟨bb, 0, none⟩), .pointer (some ⟨bd, 0, none⟩), .pointer (some ⟨bm, 0, none⟩), .pointer (some ⟨bf, 0, none⟩)]] 34 (0, 0))
theorem heap_below {w w' : World} {b : Nat} {o : Obj} (h : w.heap[b]? = some o) (hb : Below w.heap.size w w') : w'.heap[b]? = some o := (hb.block b (Array.getElem?_eq_some_iff.1 h).1).trans h
theorem SW.below {w w' : World} {bb bd bm bf : Nat} {bound : ByteArray} {mv : Value} (h : SW w bb bd bm bf bound mv) (hb : Below w.heap.size w w') : SW w' bb bd bm bf bound mv :=
  ⟨heap_below h.h1 hb, heap_below h.h2 hb, heap_below h.h3 hb, heap_below h.h4 hb⟩
/-- the test's law: at every world that grew from this one -/
def MayOk (w : World) (n : Nat) (f : Nat) (caps : Array Value) (p : ByteArray → Bool) : Prop :=
  ∀ (s : ByteArray) (w' : World), Below w.heap.size w w' → isDig s = true → 1 ≤ s.size → s.size ≤ n → Calls Tryd.prog f (#[.string s] ++ caps) w' fun e w'' => e = .returned (.bool (p s)) ∧ Below w'.heap.size w' w''
theorem MayOk.below {w w1 : World} {n f : Nat} {caps : Array Value} {p : ByteArray → Bool} (h : MayOk w n f caps p) (hb : Below w.heap.size w w1) : MayOk w1 n f caps p :=
  fun s w' hw => h s w' (below_step hb hw)
def outT : Option ByteArray → ByteArray
  | none => ⟨#[]⟩
  | some x => x
theorem dig_u8 (k : Nat) (h : k < 10) : wrap64 (48 + (k : Int)) % 256 = 48 + (k : Int) := by rw [wrap_id (by omega) (by omega)]; omega
theorem isDig_snoc (s : ByteArray) (k : Nat) (hk : k < 10) (h : isDig s = true) : isDig (s ++ strOfNums [48 + (k : Int)]) = true ∧ (s ++ strOfNums [48 + (k : Int)]).size = s.size + 1 := by
  have hz : (strOfNums [48 + (k : Int)]).size = 1 := by rw [← li_length, li_nums _ (by simp; omega)]; rfl
  have hs : (s ++ strOfNums [48 + (k : Int)]).size = s.size + 1 := by rw [ByteArray.size_append, hz]
  refine ⟨?_, hs⟩
  unfold isDig
  rw [allF_iff, hs]
  intro j _ hj
  have hb : bt (s ++ strOfNums [48 + (k : Int)]) (j : Int) = if j < s.size then bt s j else 48 + (k : Int) := by
    rw [bt_li, li_append, li_nums _ (by simp; omega), List.getD_eq_getElem?_getD]
    by_cases c : j < s.size
    · rw [if_pos c, List.getElem?_append_left (by rw [li_length]; exact c), bt_li, List.getD_eq_getElem?_getD]
    · rw [if_neg c, List.getElem?_append_right (by rw [li_length]; omega)]
      obtain rfl : j = s.size := by omega
      simp [li_length]
  simp only [digAt, hb]
  by_cases c : j < s.size
  · rw [if_pos c]; have := isDig_at h j c; simp; omega
  · rw [if_neg c]; simp; omega

theorem goesF_ {P : Program} {ops : Array Oper} {Q : Exit → Act → World → Prop} {oi : Oper} {N : Option Tmp} {a : Act} {w : World} {K : Act → World → Prop} {f : FuncId} {fn : Func} {xs : Array Operand} {ts : Array TypeId} (hf : P.funcs[f]? = some fn) (hname : (fn.name == "runtime.NumGoroutine") = false) (hb : fn.body.isSome = true) (args caps : Array Value) (t : Tmp)
    (hw : Region.wanted oi (yielded ops a.tmps) = true) (hN : oi.dst = N) (hop : oi.op = .call { callee := .value (.tmp t), args := xs, argTypes := ts }) (hv : a.eval (.tmp t) = .func (.func f) #[] caps) (hargs : xs.map a.eval ++ caps = args)
    (h : Calls P f args w fun e w' => ∃ v, e = .returned v ∧ K (a.put N v) w') : if Region.wanted oi (yielded ops a.tmps) = true then Oper.wp P oi a w K Q else K (a.put N undef) w := by
  refine call_ f args hw hN ?_ h
  have he := enters_ hf hname hb args w
  unfold execOp
  simp [hop, resolve, Deferred.ofValue, invoke, hv, hargs, he]
def find.T13 : Bool × List (List Nat × List Nat) := (true, [([], []), ([], []), ([], []), ([2], [2]), ([3], [3]), ([3], [3]), ([3], [3]), ([5, 6, 3], [3, 5, 6]), ([4, 7, 3], [3, 4, 7]), ([3, 8], [3, 8]), ([0, 1, 9, 3], [0, 1, 9]), ([10], [10]), ([11], [11]), ([11], [11]), ([12, 10, 0, 1, 2, 3, 4, 5, 6, 7, 8, 9, 10, 11, 12], [12]), ([13, 14, 0, 1, 2, 3, 4, 5, 6, 7, 8, 9, 10, 11, 12, 13, 14], [13])])
def find.B13 : List Nat := [0, 0, 0, 4, 12, 12, 12, 108, 252, 508, 1023, 2047, 4095, 4095, 8191, 32767]
theorem find.tab13 : rtab .any (opsOf Tryd.f56 13) = find.T13 := by kernel_rfl
theorem find.bits13 : waitsOk find.T13.2 find.B13 = true := by kernel_rfl

set_option maxHeartbeats 8000000 in
set_option maxRecDepth 100000 in
theorem find_any (bound : ByteArray) (n9 : bound.size ≤ 9) (pa pb : Nat) (p : ByteArray → Bool) (bb bd bm bf : Nat) : ∀ (d : Nat) (s : ByteArray) (t : Bool) (w : World), s.size + d = bound.size → isDig s = true →
    SW w bb bd bm bf bound (.func (.func 29) #[] #[.pointer (some ⟨pa, 0, none⟩), .pointer (some ⟨pb, 0, none⟩)]) → MayOk w bound.size 29 #[.pointer (some ⟨pa, 0, none⟩), .pointer (some ⟨pb, 0, none⟩)] p → ∀ (R : Option ByteArray), fnd p bound d s t = R →
    Calls Tryd.prog 56 #[.string s, .bool t, .pointer (some ⟨bb, 0, none⟩), .pointer (some ⟨bd, 0, none⟩), .pointer (some ⟨bm, 0, none⟩), .pointer (some ⟨bf, 0, none⟩)] w fun e w' => e = .returned (.tuple #[.string (outT R), .bool R.isSome]) ∧ Below w.heap.size w w' := by
  intro d
  induction d with
  | zero =>
    intro s t w hsz hdg S M R hR
    have c1 := cell_of_one S.h1
    have e1 : ((s.size : Int) == (bound.size : Int)) = true := by rw [beq_iff_eq]; omega
    have HR := Aside0.mk hR
    clear hR S M
    go_enter Tryd.func56, Tryd.ntmps56
    go_wp2
    go_ret2
    obtain rfl : some s = R := HR.out
    exact ⟨rfl, Below.refl _ _⟩
  | succ d ih =>
    intro s t w hsz hdg S M R hR
    have c1 := cell_of_one S.h1
    have e1 : ((s.size : Int) == (bound.size : Int)) = false := by rw [beq_eq_false_iff_ne]; omega
    have HR := Aside0.mk hR
    have HS := Aside0.mk S
    have HM := Aside0.mk M
    have HD := Aside0.mk hdg
    have HZ := Aside0.mk (show s.size < bound.size by omega)
    have HN := Aside0.mk hsz
    have HIH := Aside0.mk ih
    clear hR S M hdg hsz ih
    go_enter Tryd.func56, Tryd.ntmps56
    go_wp2
    go_loopg [23] 10 (fun g v23 wr => ∃ k : Nat, v23 = .int .i64 (k : Int) ∧ Aside0 (k + g = 10) ∧ Aside0 (fndK (fun k => if (t && decide (48 + (k : Int) < bt bound (s.size : Int))) = true then none else if p (s ++ strOfNums [48 + (k : Int)]) = true then fnd p bound d (s ++ strOfNums [48 + (k : Int)]) (t && (48 + (k : Int) == bt bound (s.size : Int))) else none) g k = R) ∧ Aside0 (Below w.heap.size w wr))
    case atStart => exact ⟨0, rfl, ⟨rfl⟩, ⟨HR.out⟩, ⟨Below.refl _ _⟩⟩
    case round =>
      clear c1
      obtain ⟨k, rfl, hg, hF, hB⟩ := hrel
      by_cases hk : k < 10
      · have hk10 : decide ((k : Int) < 10) = true := decide_eq_true (by omega)
        have eu := dig_u8 k hk
        have S := HS.out.below hB.out
        have c1 := cell_of_one S.h1
        have c2 := cell_of_one S.h2
        have c3 := cell_of_one S.h3
        have c4 := cell_of_one S.h4
        clear S
        have b0 : (0 : Int) ≤ (s.size : Int) := by omega
        have b1 : (s.size : Int) < (bound.size : Int) := by have := HZ.out; omega
        obtain ⟨x, hx⟩ : ∃ x : Int, x = bt bound (s.size : Int) := ⟨_, rfl⟩
        have hbx : ∀ h : s.size < bound.size, ((bound[s.size]'h).toNat : Int) = x := fun h => (bt_at bound (s.size : Int) h).trans hx.symm
        have HX := Aside0.mk hx
        clear hx
        by_cases hskip : (t && decide (48 + (k : Int) < x)) = true
        · obtain ⟨rfl, hcx⟩ : t = true ∧ decide (48 + (k : Int) < x) = true := by simpa using hskip
          go_wp2
          go_roundg (gk - 1)
          case measure => have := hg.out; omega
          case rel =>
            have hgk : gk = (gk - 1) + 1 := by have := hg.out; omega
            refine ⟨k + 1, by go_num, ⟨by have := hg.out; omega⟩, ⟨?_⟩, ⟨hB.out⟩⟩
            have h := hF.out
            rw [hgk] at h
            simp only [fndK] at h
            rw [← HX.out, if_pos hskip] at h
            rw [← HX.out]
            exact h
        · obtain ⟨y, hy⟩ : ∃ y, y = strOfNums [48 + (k : Int)] := ⟨_, rfl⟩
          have hys : y.size = 1 := by rw [hy, ← li_length, li_nums _ (by simp; omega)]; rfl
          obtain ⟨W1, hW1⟩ : ∃ W, W = wr.alloc (.cells #[.int .u8 (48 + (k : Int))] 5) := ⟨_, rfl⟩
          have hcv : Sem.run Tryd.prog (convert 46 9 (.slice (some ⟨wr.heap.size, 0, none⟩) 1 1)) (wr.alloc (.cells #[.int .u8 (48 + (k : Int))] 5)) = .ok (.string y) W1 := by
            rw [hy, hW1]
            refine string_of_reads Tryd.underlying46 Tryd.underlying5 Tryd.underlying9 ⟨rfl, by omega, fun _ => ⟨_, rfl, fun j hj => ?_⟩⟩
            obtain rfl : j = 0 := by omega
            rw [add_plain, cell_of_row _ _ _ _ 5 (0, 0) (heap_alloc_new _ _)]
            rfl
          have hB1 := below_step hB.out (below_alloc (Below.refl wr.heap.size wr) (.cells #[.int .u8 (48 + (k : Int))] 5))
          rw [← hW1] at hB1
          have hcat : s.size + y.size ≤ 9223372036854775807 := by rw [hys]; omega
          have S1 := HS.out.below hB1
          have d1 := cell_of_one S1.h1
          have d2 := cell_of_one S1.h2
          have d3 := cell_of_one S1.h3
          have d4 := cell_of_one S1.h4
          clear S1 hW1
          have hdg := isDig_snoc s k hk HD.out
          rw [← hy] at hdg
          have HY := Aside0.mk hy
          clear hy
          have HDG := Aside0.mk hdg
          clear hdg
          have HB1 := Aside0.mk hB1
          clear hB1
          obtain ⟨t', ht', htt⟩ : ∃ t', (t && (48 + (k : Int) == x)) = t' ∧ ((t = false ∧ t' = false) ∨ (t = true ∧ t' = true ∧ decide (48 + (k : Int) < x) = false ∧ (48 + (k : Int) == x) = true) ∨ (t = true ∧ t' = false ∧ decide (48 + (k : Int) < x) = false ∧ (48 + (k : Int) == x) = false)) := by
            refine ⟨_, rfl, ?_⟩
            cases t with
            | false => exact .inl ⟨rfl, rfl⟩
            | true =>
              have h1 : decide (48 + (k : Int) < x) = false := by
                rw [Bool.true_and, Bool.not_eq_true] at hskip; exact hskip
              cases hb : (48 + (k : Int) == x) with
              | true => exact .inr (.inl ⟨rfl, rfl, h1, rfl⟩)
              | false => exact .inr (.inr ⟨rfl, rfl, h1, rfl⟩)
          -- what the rest of the search tells here
          have hF1 : ∀ q, (if p (s ++ y) = true then fnd p bound d (s ++ y) t' else none) = q → (match q with | some o => some o | none => fndK (fun k => if (t && decide (48 + (k : Int) < bt bound (s.size : Int))) = true then none else if p (s ++ strOfNums [48 + (k : Int)]) = true then fnd p bound d (s ++ strOfNums [48 + (k : Int)]) (t && (48 + (k : Int) == bt bound (s.size : Int))) else none) (gk - 1) (k + 1)) = R := by
            intro q hq
            have hgk : gk = (gk - 1) + 1 := by have := hg.out; omega
            have h := hF.out
            rw [hgk] at h
            simp only [fndK] at h
            rw [← HX.out, if_neg hskip, ← HY.out, ht', hq] at h
            rw [← HX.out]
            exact h
          have HF1 := Aside0.mk hF1
          clear hF1 ht' hskip
          by_cases hp : p (s ++ y) = true
          · obtain ⟨R', hR'⟩ : ∃ R', fnd p bound d (s ++ y) t' = R' := ⟨_, rfl⟩
            have HR' := Aside0.mk hR'
            clear hR'
            rcases htt with ⟨rfl, rfl⟩ | ⟨rfl, rfl, hlt, heq⟩ | ⟨rfl, rfl, hlt, heq⟩
            · go_wp2_with (go_at_call 29; refine (HM.out (s ++ y) W1 HB1.out HDG.out.1 (by rw [HDG.out.2]; omega) (by rw [HDG.out.2]; have := HZ.out; omega)).mono ?_; rintro e W2 ⟨rfl, hb2⟩; have HB2 := Aside0.mk (below_step HB1.out hb2); clear hb2; have S2 := HS.out.below HB2.out; have f1 := cell_of_one S2.h1; have f4 := cell_of_one S2.h4; clear S2 d1 d2 d3 d4 c1 c2 c3 c4 hcv)
              refine start_ (n := 16) (S := fun w' => w'.cell? ⟨bf, 0, none⟩ = some (.func (.func 56) #[] #[.pointer (some ⟨bb, 0, none⟩), .pointer (some ⟨bd, 0, none⟩), .pointer (some ⟨bm, 0, none⟩), .pointer (some ⟨bf, 0, none⟩)]) ∧ w'.cell? ⟨bb, 0, none⟩ = some (.string bound)) (ds := []) #[false, false, false, false, false, false, false, false, false, false, false, false, false, false, false, false] (by kernel_rfl) rfl rfl ⟨f4, f1⟩ (fun hHeld => ?_)
              refine with_tabW find.tab13 find.bits13 (fun HT_ HW_ => ?_)
              refine pure_ (i := 1) (N := some 66) (v := ?_) (a' := ?_) #[false, true, false, false, false, false, false, false, false, false, false, false, false, false, false, false] rfl rfl (any_of HT_.out (by kernel_rfl)) (fun _ _ _ h => h) (Or.inl ⟨by rfl, ?_⟩) ?_ ?_
              rotate_left
              · intro w'
                go_simp
                with_reducible rfl
              rotate_left
              · simp only [Act.put, List.setIfInBounds_toArray, List.set_cons_zero, List.set_cons_succ, i64_w, i32_w]
                rfl
              refine pure_ (i := 2) (N := some 67) (v := ?_) (a' := ?_) #[false, true, true, false, false, false, false, false, false, false, false, false, false, false, false, false] rfl rfl (any_of HT_.out (by kernel_rfl)) (fun _ _ _ h => h) (Or.inl ⟨by rfl, ?_⟩) ?_ ?_
              rotate_left
              · intro w'
                go_simp
                with_reducible rfl
              rotate_left
              · simp only [Act.put, List.setIfInBounds_toArray, List.set_cons_zero, List.set_cons_succ, i64_w, i32_w]
                rfl
              refine pure_ (i := 3) (N := some 68) (v := ?_) (a' := ?_) #[false, true, true, true, false, false, false, false, false, false, false, false, false, false, false, false] rfl rfl (any_of HT_.out (by kernel_rfl)) (fun _ _ _ h => h) (Or.inl ⟨by rfl, ?_⟩) ?_ ?_
              rotate_left
              · intro w'
                go_simp
                with_reducible rfl
              rotate_left
              · simp only [Act.put, List.setIfInBounds_toArray, List.set_cons_zero, List.set_cons_succ, i64_w, i32_w]
                rfl
              refine pure_ (i := 4) (N := some 69) (v := undef) (a' := ?_) #[false, true, true, true, true, false, false, false, false, false, false, false, false, false, false, false] rfl rfl (any_of HT_.out (by kernel_rfl)) (fun _ _ _ h => h) (Or.inr ⟨by rfl, rfl⟩) ?_ ?_
              rotate_left
              · simp only [Act.put, List.setIfInBounds_toArray, List.set_cons_zero, List.set_cons_succ, i64_w, i32_w]
                rfl
              refine pure_ (i := 5) (N := some 70) (v := undef) (a' := ?_) #[false, true, true, true, true, true, false, false, false, false, false, false, false, false, false, false] rfl rfl (any_of HT_.out (by kernel_rfl)) (fun _ _ _ h => h) (Or.inr ⟨by rfl, rfl⟩) ?_ ?_
              rotate_left
              · simp only [Act.put, List.setIfInBounds_toArray, List.set_cons_zero, List.set_cons_succ, i64_w, i32_w]
                rfl
              refine pure_ (i := 6) (N := some 71) (v := undef) (a' := ?_) #[false, true, true, true, true, true, true, false, false, false, false, false, false, false, false, false] rfl rfl (any_of HT_.out (by kernel_rfl)) (fun _ _ _ h => h) (Or.inr ⟨by rfl, rfl⟩) ?_ ?_
              rotate_left
              · simp only [Act.put, List.setIfInBounds_toArray, List.set_cons_zero, List.set_cons_succ, i64_w, i32_w]
                rfl
              refine pure_ (i := 7) (N := some 72) (v := undef) (a' := ?_) #[false, true, true, true, true, true, true, true, false, false, false, false, false, false, false, false] rfl rfl (any_of HT_.out (by kernel_rfl)) (fun _ _ _ h => h) (Or.inr ⟨by rfl, rfl⟩) ?_ ?_
              rotate_left
              · simp only [Act.put, List.setIfInBounds_toArray, List.set_cons_zero, List.set_cons_succ, i64_w, i32_w]
                rfl
              refine pure_ (i := 8) (N := some 73) (v := undef) (a' := ?_) #[false, true, true, true, true, true, true, true, true, false, false, false, false, false, false, false] rfl rfl (any_of HT_.out (by kernel_rfl)) (fun _ _ _ h => h) (Or.inr ⟨by rfl, rfl⟩) ?_ ?_
              rotate_left
              · simp only [Act.put, List.setIfInBounds_toArray, List.set_cons_zero, List.set_cons_succ, i64_w, i32_w]
                rfl
              refine pure_ (i := 9) (N := some 74) (v := ?_) (a' := ?_) #[false, true, true, true, true, true, true, true, true, true, false, false, false, false, false, false] rfl rfl (any_of HT_.out (by kernel_rfl)) (fun _ _ _ h => h) (Or.inl ⟨by rfl, ?_⟩) ?_ ?_
              rotate_left
              · intro w'
                go_simp
                with_reducible rfl
              rotate_left
              · simp only [Act.put, List.setIfInBounds_toArray, List.set_cons_zero, List.set_cons_succ, i64_w, i32_w]
                rfl
              refine take_ (i := 0) (N := some 65) (v := ?_) (a' := ?_) #[true, true, true, true, true, true, true, true, true, true, false, false, false, false, false, false] rfl rfl (take_ofW HT_.out HW_.out (by kernel_rfl)) (fun _ _ _ h => h) (Or.inl ⟨by rfl, ?_⟩) hHeld ?_ ?_
              rotate_left
              · rintro w' ⟨s0, s1⟩
                go_simp
                with_reducible rfl
              rotate_left
              · simp only [Act.put, List.setIfInBounds_toArray, List.set_cons_zero, List.set_cons_succ, i64_w, i32_w]
                rfl
              refine one_ (i := 10) (N := some 75) #[true, true, true, true, true, true, true, true, true, true, true, false, false, false, false, false] rfl rfl (one_of HT_.out (by kernel_rfl)) (by decide) (fun K hK => ?_)
              refine goesF_ Tryd.func56 (by kernel_rfl) rfl #[.string (s ++ y), .bool false, .pointer (some ⟨bb, 0, none⟩), .pointer (some ⟨bd, 0, none⟩), .pointer (some ⟨bm, 0, none⟩), .pointer (some ⟨bf, 0, none⟩)] #[.pointer (some ⟨bb, 0, none⟩), .pointer (some ⟨bd, 0, none⟩), .pointer (some ⟨bm, 0, none⟩), .pointer (some ⟨bf, 0, none⟩)] 65 (by rfl) rfl rfl (by rfl) (by simp only [List.map_toArray, List.map_cons, List.map_nil]; rfl) ?_
              with_reducible refine (HIH.out (s ++ y) false _ (by rw [HDG.out.2]; have := HN.out; omega) HDG.out.1 (HS.out.below (below_drew1 HB2.out)) (HM.out.below (below_drew1 HB2.out)) R' HR'.out).mono ?_
              rintro e W3 ⟨rfl, hb3⟩
              refine ⟨_, rfl, ?_⟩
              have HB3 := Aside0.mk (below_step (below_drew1 HB2.out) hb3)
              clear hb3
              have S3 := HS.out.below HB3.out
              refine hK.out _ _ ⟨cell_of_one S3.h4, cell_of_one S3.h1⟩ (fun hHeld => ?_)
              clear hK K
              refine norm_ (a' := ?_) ?_ ?_
              rotate_left
              · show Act.put _ (some 75) _ = _
                simp only [Act.put, List.setIfInBounds_toArray, List.set_cons_zero, List.set_cons_succ, i64_w, i32_w]
                rfl
              refine pure_ (i := 11) (N := some 64) (v := ?_) (a' := ?_) #[true, true, true, true, true, true, true, true, true, true, true, true, false, false, false, false] rfl rfl (any_of HT_.out (by kernel_rfl)) (fun _ _ _ h => h) (Or.inl ⟨by rfl, ?_⟩) ?_ ?_
              rotate_left
              · intro w'
                go_simp
                with_reducible rfl
              rotate_left
              · simp only [Act.put, List.setIfInBounds_toArray, List.set_cons_zero, List.set_cons_succ, i64_w, i32_w]
                rfl
              refine pure_ (i := 12) (N := some 76) (v := ?_) (a' := ?_) #[true, true, true, true, true, true, true, true, true, true, true, true, true, false, false, false] rfl rfl (any_of HT_.out (by kernel_rfl)) (fun _ _ _ h => h) (Or.inl ⟨by rfl, ?_⟩) ?_ ?_
              rotate_left
              · intro w'
                go_simp
                with_reducible rfl
              rotate_left
              · simp only [Act.put, List.setIfInBounds_toArray, List.set_cons_zero, List.set_cons_succ, i64_w, i32_w]
                rfl
              refine pure_ (i := 13) (N := some 77) (v := ?_) (a' := ?_) #[true, true, true, true, true, true, true, true, true, true, true, true, true, true, false, false] rfl rfl (any_of HT_.out (by kernel_rfl)) (fun _ _ _ h => h) (Or.inl ⟨by rfl, ?_⟩) ?_ ?_
              rotate_left
              · intro w'
                go_simp
                with_reducible rfl
              rotate_left
              · simp only [Act.put, List.setIfInBounds_toArray, List.set_cons_zero, List.set_cons_succ, i64_w, i32_w]
                rfl
              refine pure_ (i := 14) (N := some 14) (v := ?_) (a' := ?_) #[true, true, true, true, true, true, true, true, true, true, true, true, true, true, true, false] rfl rfl (any_of HT_.out (by kernel_rfl)) (fun _ _ _ h => h) (Or.inl ⟨by rfl, ?_⟩) ?_ ?_
              rotate_left
              · intro w'
                go_simp
                with_reducible rfl
              rotate_left
              · simp only [Act.put, List.setIfInBounds_toArray, List.set_cons_zero, List.set_cons_succ, i64_w, i32_w]
                rfl
              refine pure_ (i := 15) (N := some 15) (v := ?_) (a' := ?_) #[true, true, true, true, true, true, true, true, true, true, true, true, true, true, true, true] rfl rfl (any_of HT_.out (by kernel_rfl)) (fun _ _ _ h => h) (Or.inl ⟨by rfl, ?_⟩) ?_ ?_
              rotate_left
              · intro w'
                go_simp
                with_reducible rfl
              rotate_left
              · simp only [Act.put, List.setIfInBounds_toArray, List.set_cons_zero, List.set_cons_succ, i64_w, i32_w]
                rfl
              refine done_ (done_of HT_.out (by kernel_rfl)) ?_
              cases R' with
              | some o =>
                have hfin : some o = R := HF1.out (some o) (by rw [if_pos hp]; exact HR'.out)
                subst hfin
                go_wp2
                go_ret2
                exact ⟨rfl, HB3.out⟩
              | none =>
                go_wp2
                go_roundg (gk - 1)
                case measure => have := hg.out; omega
                case rel => exact ⟨k + 1, by go_num, ⟨by have := hg.out; omega⟩, ⟨HF1.out none (by rw [if_pos hp]; exact HR'.out)⟩, ⟨HB3.out⟩⟩
            · go_wp2_with (go_at_call 29; refine (HM.out (s ++ y) W1 HB1.out HDG.out.1 (by rw [HDG.out.2]; omega) (by rw [HDG.out.2]; have := HZ.out; omega)).mono ?_; rintro e W2 ⟨rfl, hb2⟩; have HB2 := Aside0.mk (below_step HB1.out hb2); clear hb2; have S2 := HS.out.below HB2.out; have f1 := cell_of_one S2.h1; have f4 := cell_of_one S2.h4; clear S2 d1 d2 d3 d4 c1 c2 c3 c4 hcv)
              refine start_ (n := 16) (S := fun w' => w'.cell? ⟨bf, 0, none⟩ = some (.func (.func 56) #[] #[.pointer (some ⟨bb, 0, none⟩), .pointer (some ⟨bd, 0, none⟩), .pointer (some ⟨bm, 0, none⟩), .pointer (some ⟨bf, 0, none⟩)]) ∧ w'.cell? ⟨bb, 0, none⟩ = some (.string bound)) (ds := []) #[false, false, false, false, false, false, false, false, false, false, false, false, false, false, false, false] (by kernel_rfl) rfl rfl ⟨f4, f1⟩ (fun hHeld => ?_)
              refine with_tabW find.tab13 find.bits13 (fun HT_ HW_ => ?_)
              refine pure_ (i := 1) (N := some 66) (v := ?_) (a' := ?_) #[false, true, false, false, false, false, false, false, false, false, false, false, false, false, false, false] rfl rfl (any_of HT_.out (by kernel_rfl)) (fun _ _ _ h => h) (Or.inl ⟨by rfl, ?_⟩) ?_ ?_
              rotate_left
              · intro w'
                go_simp
                with_reducible rfl
              rotate_left
              · simp only [Act.put, List.setIfInBounds_toArray, List.set_cons_zero, List.set_cons_succ, i64_w, i32_w]
                rfl
              refine pure_ (i := 2) (N := some 67) (v := ?_) (a' := ?_) #[false, true, true, false, false, false, false, false, false, false, false, false, false, false, false, false] rfl rfl (any_of HT_.out (by kernel_rfl)) (fun _ _ _ h => h) (Or.inl ⟨by rfl, ?_⟩) ?_ ?_
              rotate_left
              · intro w'
                go_simp
                with_reducible rfl
              rotate_left
              · simp only [Act.put, List.setIfInBounds_toArray, List.set_cons_zero, List.set_cons_succ, i64_w, i32_w]
                rfl
              refine pure_ (i := 3) (N := some 68) (v := ?_) (a' := ?_) #[false, true, true, true, false, false, false, false, false, false, false, false, false, false, false, false] rfl rfl (any_of HT_.out (by kernel_rfl)) (fun _ _ _ h => h) (Or.inl ⟨by rfl, ?_⟩) ?_ ?_
              rotate_left
              · intro w'
                go_simp
                with_reducible rfl
              rotate_left
              · simp only [Act.put, List.setIfInBounds_toArray, List.set_cons_zero, List.set_cons_succ, i64_w, i32_w]
                rfl
              refine pure_ (i := 4) (N := some 69) (v := ?_) (a' := ?_) #[false, true, true, true, true, false, false, false, false, false, false, false, false, false, false, false] rfl rfl (any_of HT_.out (by kernel_rfl)) (fun _ _ _ h => h) (Or.inl ⟨by rfl, ?_⟩) ?_ ?_
              rotate_left
              · intro w'
                go_simp
                with_reducible rfl
              rotate_left
              · simp only [Act.put, List.setIfInBounds_toArray, List.set_cons_zero, List.set_cons_succ, i64_w, i32_w]
                rfl
              refine pure_ (i := 6) (N := some 71) (v := ?_) (a' := ?_) #[false, true, true, true, true, false, true, false, false, false, false, false, false, false, false, false] rfl rfl (any_of HT_.out (by kernel_rfl)) (fun _ _ _ h => h) (Or.inl ⟨by rfl, ?_⟩) ?_ ?_
              rotate_left
              · intro w'
                go_simp
                with_reducible rfl
              rotate_left
              · simp only [Act.put, List.setIfInBounds_toArray, List.set_cons_zero, List.set_cons_succ, i64_w, i32_w]
                rfl
              refine take_ (i := 0) (N := some 65) (v := ?_) (a' := ?_) #[true, true, true, true, true, false, true, false, false, false, false, false, false, false, false, false] rfl rfl (take_ofW HT_.out HW_.out (by kernel_rfl)) (fun _ _ _ h => h) (Or.inl ⟨by rfl, ?_⟩) hHeld ?_ ?_
              rotate_left
              · rintro w' ⟨s0, s1⟩
                go_simp
                with_reducible rfl
              rotate_left
              · simp only [Act.put, List.setIfInBounds_toArray, List.set_cons_zero, List.set_cons_succ, i64_w, i32_w]
                rfl
              refine take_ (i := 5) (N := some 70) (v := ?_) (a' := ?_) #[true, true, true, true, true, true, true, false, false, false, false, false, false, false, false, false] rfl rfl (take_ofW HT_.out HW_.out (by kernel_rfl)) (fun _ _ _ h => h) (Or.inl ⟨by rfl, ?_⟩) hHeld ?_ ?_
              rotate_left
              · rintro w' ⟨s0, s1⟩
                go_simp
                with_reducible rfl
              rotate_left
              · simp only [Act.put, List.setIfInBounds_toArray, List.set_cons_zero, List.set_cons_succ, i64_w, i32_w]
                rfl
              refine take_ (i := 7) (N := some 72) (v := ?_) (a' := ?_) #[true, true, true, true, true, true, true, true, false, false, false, false, false, false, false, false] rfl rfl (take_ofW HT_.out HW_.out (by kernel_rfl)) (fun _ _ _ h => h) (Or.inl ⟨by rfl, ?_⟩) hHeld ?_ ?_
              rotate_left
              · rintro w' ⟨s0, s1⟩
                go_simp
                with_reducible rfl
              rotate_left
              · simp only [Act.put, List.setIfInBounds_toArray, List.set_cons_zero, List.set_cons_succ, i64_w, i32_w]
                rfl
              refine pure_ (i := 8) (N := some 73) (v := ?_) (a' := ?_) #[true, true, true, true, true, true, true, true, true, false, false, false, false, false, false, false] rfl rfl (any_of HT_.out (by kernel_rfl)) (fun _ _ _ h => h) (Or.inl ⟨by rfl, ?_⟩) ?_ ?_
              rotate_left
              · intro w'
                go_simp
                with_reducible rfl
              rotate_left
              · simp only [Act.put, List.setIfInBounds_toArray, List.set_cons_zero, List.set_cons_succ, i64_w, i32_w]
                rfl
              refine pure_ (i := 9) (N := some 74) (v := ?_) (a' := ?_) #[true, true, true, true, true, true, true, true, true, true, false, false, false, false, false, false] rfl rfl (any_of HT_.out (by kernel_rfl)) (fun _ _ _ h => h) (Or.inl ⟨by rfl, ?_⟩) ?_ ?_
              rotate_left
              · intro w'
                go_simp
                with_reducible rfl
              rotate_left
              · simp only [Act.put, List.setIfInBounds_toArray, List.set_cons_zero, List.set_cons_succ, i64_w, i32_w]
                rfl
              refine one_ (i := 10) (N := some 75) #[true, true, true, true, true, true, true, true, true, true, true, false, false, false, false, false] rfl rfl (one_of HT_.out (by kernel_rfl)) (by decide) (fun K hK => ?_)
              refine goesF_ Tryd.func56 (by kernel_rfl) rfl #[.string (s ++ y), .bool true, .pointer (some ⟨bb, 0, none⟩), .pointer (some ⟨bd, 0, none⟩), .pointer (some ⟨bm, 0, none⟩), .pointer (some ⟨bf, 0, none⟩)] #[.pointer (some ⟨bb, 0, none⟩), .pointer (some ⟨bd, 0, none⟩), .pointer (some ⟨bm, 0, none⟩), .pointer (some ⟨bf, 0, none⟩)] 65 (by rfl) rfl rfl (by rfl) (by simp only [List.map_toArray, List.map_cons, List.map_nil]; rfl) ?_
              with_reducible refine (HIH.out (s ++ y) true _ (by rw [HDG.out.2]; have := HN.out; omega) HDG.out.1 (HS.out.below (below_drew1 HB2.out)) (HM.out.below (below_drew1 HB2.out)) R' HR'.out).mono ?_
              rintro e W3 ⟨rfl, hb3⟩
              refine ⟨_, rfl, ?_⟩
              have HB3 := Aside0.mk (below_step (below_drew1 HB2.out) hb3)
              clear hb3
              have S3 := HS.out.below HB3.out
              refine hK.out _ _ ⟨cell_of_one S3.h4, cell_of_one S3.h1⟩ (fun hHeld => ?_)
              clear hK K
              refine norm_ (a' := ?_) ?_ ?_
              rotate_left
              · show Act.put _ (some 75) _ = _
                simp only [Act.put, List.setIfInBounds_toArray, List.set_cons_zero, List.set_cons_succ, i64_w, i32_w]
                rfl
              refine pure_ (i := 11) (N := some 64) (v := ?_) (a' := ?_) #[true, true, true, true, true, true, true, true, true, true, true, true, false, false, false, false] rfl rfl (any_of HT_.out (by kernel_rfl)) (fun _ _ _ h => h) (Or.inl ⟨by rfl, ?_⟩) ?_ ?_
              rotate_left
              · intro w'
                go_simp
                with_reducible rfl
              rotate_left
              · simp only [Act.put, List.setIfInBounds_toArray, List.set_cons_zero, List.set_cons_succ, i64_w, i32_w]
                rfl
              refine pure_ (i := 12) (N := some 76) (v := ?_) (a' := ?_) #[true, true, true, true, true, true, true, true, true, true, true, true, true, false, false, false] rfl rfl (any_of HT_.out (by kernel_rfl)) (fun _ _ _ h => h) (Or.inl ⟨by rfl, ?_⟩) ?_ ?_
              rotate_left
              · intro w'
                go_simp
                with_reducible rfl
              rotate_left
              · simp only [Act.put, List.setIfInBounds_toArray, List.set_cons_zero, List.set_cons_succ, i64_w, i32_w]
                rfl
              refine pure_ (i := 13) (N := some 77) (v := ?_) (a' := ?_) #[true, true, true, true, true, true, true, true, true, true, true, true, true, true, false, false] rfl rfl (any_of HT_.out (by kernel_rfl)) (fun _ _ _ h => h) (Or.inl ⟨by rfl, ?_⟩) ?_ ?_
              rotate_left
              · intro w'
                go_simp
                with_reducible rfl
              rotate_left
              · simp only [Act.put, List.setIfInBounds_toArray, List.set_cons_zero, List.set_cons_succ, i64_w, i32_w]
                rfl
              refine pure_ (i := 14) (N := some 14) (v := ?_) (a' := ?_) #[true, true, true, true, true, true, true, true, true, true, true, true, true, true, true, false] rfl rfl (any_of HT_.out (by kernel_rfl)) (fun _ _ _ h => h) (Or.inl ⟨by rfl, ?_⟩) ?_ ?_
              rotate_left
              · intro w'
                go_simp
                with_reducible rfl
              rotate_left
              · simp only [Act.put, List.setIfInBounds_toArray, List.set_cons_zero, List.set_cons_succ, i64_w, i32_w]
                rfl
              refine pure_ (i := 15) (N := some 15) (v := ?_) (a' := ?_) #[true, true, true, true, true, true, true, true, true, true, true, true, true, true, true, true] rfl rfl (any_of HT_.out (by kernel_rfl)) (fun _ _ _ h => h) (Or.inl ⟨by rfl, ?_⟩) ?_ ?_
              rotate_left
              · intro w'
                go_simp
                with_reducible rfl
              rotate_left
              · simp only [Act.put, List.setIfInBounds_toArray, List.set_cons_zero, List.set_cons_succ, i64_w, i32_w]
                rfl
              refine done_ (done_of HT_.out (by kernel_rfl)) ?_
              cases R' with
              | some o =>
                have hfin : some o = R := HF1.out (some o) (by rw [if_pos hp]; exact HR'.out)
                subst hfin
                go_wp2
                go_ret2
                exact ⟨rfl, HB3.out⟩
              | none =>
                go_wp2
                go_roundg (gk - 1)
                case measure => have := hg.out; omega
                case rel => exact ⟨k + 1, by go_num, ⟨by have := hg.out; omega⟩, ⟨HF1.out none (by rw [if_pos hp]; exact HR'.out)⟩, ⟨HB3.out⟩⟩
            · go_wp2_with (go_at_call 29; refine (HM.out (s ++ y) W1 HB1.out HDG.out.1 (by rw [HDG.out.2]; omega) (by rw [HDG.out.2]; have := HZ.out; omega)).mono ?_; rintro e W2 ⟨rfl, hb2⟩; have HB2 := Aside0.mk (below_step HB1.out hb2); clear hb2; have S2 := HS.out.below HB2.out; have f1 := cell_of_one S2.h1; have f4 := cell_of_one S2.h4; clear S2 d1 d2 d3 d4 c1 c2 c3 c4 hcv)
              refine start_ (n := 16) (S := fun w' => w'.cell? ⟨bf, 0, none⟩ = some (.func (.func 56) #[] #[.pointer (some ⟨bb, 0, none⟩), .pointer (some ⟨bd, 0, none⟩), .pointer (some ⟨bm, 0, none⟩), .pointer (some ⟨bf, 0, none⟩)]) ∧ w'.cell? ⟨bb, 0, none⟩ = some (.string bound)) (ds := []) #[false, false, false, false, false, false, false, false, false, false, false, false, false, false, false, false] (by kernel_rfl) rfl rfl ⟨f4, f1⟩ (fun hHeld => ?_)
              refine with_tabW find.tab13 find.bits13 (fun HT_ HW_ => ?_)
              refine pure_ (i := 1) (N := some 66) (v := ?_) (a' := ?_) #[false, true, false, false, false, false, false, false, false, false, false, false, false, false, false, false] rfl rfl (any_of HT_.out (by kernel_rfl)) (fun _ _ _ h => h) (Or.inl ⟨by rfl, ?_⟩) ?_ ?_
              rotate_left
              · intro w'
                go_simp
                with_reducible rfl
              rotate_left
              · simp only [Act.put, List.setIfInBounds_toArray, List.set_cons_zero, List.set_cons_succ, i64_w, i32_w]
                rfl
              refine pure_ (i := 2) (N := some 67) (v := ?_) (a' := ?_) #[false, true, true, false, false, false, false, false, false, false, false, false, false, false, false, false] rfl rfl (any_of HT_.out (by kernel_rfl)) (fun _ _ _ h => h) (Or.inl ⟨by rfl, ?_⟩) ?_ ?_
              rotate_left
              · intro w'
                go_simp
                with_reducible rfl
              rotate_left
              · simp only [Act.put, List.setIfInBounds_toArray, List.set_cons_zero, List.set_cons_succ, i64_w, i32_w]
                rfl
              refine pure_ (i := 3) (N := some 68) (v := ?_) (a' := ?_) #[false, true, true, true, false, false, false, false, false, false, false, false, false, false, false, false] rfl rfl (any_of HT_.out (by kernel_rfl)) (fun _ _ _ h => h) (Or.inl ⟨by rfl, ?_⟩) ?_ ?_
              rotate_left
              · intro w'
                go_simp
                with_reducible rfl
              rotate_left
              · simp only [Act.put, List.setIfInBounds_toArray, List.set_cons_zero, List.set_cons_succ, i64_w, i32_w]
                rfl
              refine pure_ (i := 4) (N := some 69) (v := ?_) (a' := ?_) #[false, true, true, true, true, false, false, false, false, false, false, false, false, false, false, false] rfl rfl (any_of HT_.out (by kernel_rfl)) (fun _ _ _ h => h) (Or.inl ⟨by rfl, ?_⟩) ?_ ?_
              rotate_left
              · intro w'
                go_simp
                with_reducible rfl
              rotate_left
              · simp only [Act.put, List.setIfInBounds_toArray, List.set_cons_zero, List.set_cons_succ, i64_w, i32_w]
                rfl
              refine pure_ (i := 6) (N := some 71) (v := ?_) (a' := ?_) #[false, true, true, true, true, false, true, false, false, false, false, false, false, false, false, false] rfl rfl (any_of HT_.out (by kernel_rfl)) (fun _ _ _ h => h) (Or.inl ⟨by rfl, ?_⟩) ?_ ?_
              rotate_left
              · intro w'
                go_simp
                with_reducible rfl
              rotate_left
              · simp only [Act.put, List.setIfInBounds_toArray, List.set_cons_zero, List.set_cons_succ, i64_w, i32_w]
                rfl
              refine take_ (i := 0) (N := some 65) (v := ?_) (a' := ?_) #[true, true, true, true, true, false, true, false, false, false, false, false, false, false, false, false] rfl rfl (take_ofW HT_.out HW_.out (by kernel_rfl)) (fun _ _ _ h => h) (Or.inl ⟨by rfl, ?_⟩) hHeld ?_ ?_
              rotate_left
              · rintro w' ⟨s0, s1⟩
                go_simp
                with_reducible rfl
              rotate_left
              · simp only [Act.put, List.setIfInBounds_toArray, List.set_cons_zero, List.set_cons_succ, i64_w, i32_w]
                rfl
              refine take_ (i := 5) (N := some 70) (v := ?_) (a' := ?_) #[true, true, true, true, true, true, true, false, false, false, false, false, false, false, false, false] rfl rfl (take_ofW HT_.out HW_.out (by kernel_rfl)) (fun _ _ _ h => h) (Or.inl ⟨by rfl, ?_⟩) hHeld ?_ ?_
              rotate_left
              · rintro w' ⟨s0, s1⟩
                go_simp
                with_reducible rfl
              rotate_left
              · simp only [Act.put, List.setIfInBounds_toArray, List.set_cons_zero, List.set_cons_succ, i64_w, i32_w]
                rfl
              refine take_ (i := 7) (N := some 72) (v := ?_) (a' := ?_) #[true, true, true, true, true, true, true, true, false, false, false, false, false, false, false, false] rfl rfl (take_ofW HT_.out HW_.out (by kernel_rfl)) (fun _ _ _ h => h) (Or.inl ⟨by rfl, ?_⟩) hHeld ?_ ?_
              rotate_left
              · rintro w' ⟨s0, s1⟩
                go_simp
                with_reducible rfl
              rotate_left
              · simp only [Act.put, List.setIfInBounds_toArray, List.set_cons_zero, List.set_cons_succ, i64_w, i32_w]
                rfl
              refine pure_ (i := 8) (N := some 73) (v := ?_) (a' := ?_) #[true, true, true, true, true, true, true, true, true, false, false, false, false, false, false, false] rfl rfl (any_of HT_.out (by kernel_rfl)) (fun _ _ _ h => h) (Or.inl ⟨by rfl, ?_⟩) ?_ ?_
              rotate_left
              · intro w'
                go_simp
                with_reducible rfl
              rotate_left
              · simp only [Act.put, List.setIfInBounds_toArray, List.set_cons_zero, List.set_cons_succ, i64_w, i32_w]
                rfl
              refine pure_ (i := 9) (N := some 74) (v := ?_) (a' := ?_) #[true, true, true, true, true, true, true, true, true, true, false, false, false, false, false, false] rfl rfl (any_of HT_.out (by kernel_rfl)) (fun _ _ _ h => h) (Or.inl ⟨by rfl, ?_⟩) ?_ ?_
              rotate_left
              · intro w'
                go_simp
                with_reducible rfl
              rotate_left
              · simp only [Act.put, List.setIfInBounds_toArray, List.set_cons_zero, List.set_cons_succ, i64_w, i32_w]
                rfl
              refine one_ (i := 10) (N := some 75) #[true, true, true, true, true, true, true, true, true, true, true, false, false, false, false, false] rfl rfl (one_of HT_.out (by kernel_rfl)) (by decide) (fun K hK => ?_)
              refine goesF_ Tryd.func56 (by kernel_rfl) rfl #[.string (s ++ y), .bool false, .pointer (some ⟨bb, 0, none⟩), .pointer (some ⟨bd, 0, none⟩), .pointer (some ⟨bm, 0, none⟩), .pointer (some ⟨bf, 0, none⟩)] #[.pointer (some ⟨bb, 0, none⟩), .pointer (some ⟨bd, 0, none⟩), .pointer (some ⟨bm, 0, none⟩), .pointer (some ⟨bf, 0, none⟩)] 65 (by rfl) rfl rfl (by rfl) (by simp only [List.map_toArray, List.map_cons, List.map_nil]; rfl) ?_
              with_reducible refine (HIH.out (s ++ y) false _ (by rw [HDG.out.2]; have := HN.out; omega) HDG.out.1 (HS.out.below (below_drew1 HB2.out)) (HM.out.below (below_drew1 HB2.out)) R' HR'.out).mono ?_
              rintro e W3 ⟨rfl, hb3⟩
              refine ⟨_, rfl, ?_⟩
              have HB3 := Aside0.mk (below_step (below_drew1 HB2.out) hb3)
              clear hb3
              have S3 := HS.out.below HB3.out
              refine hK.out _ _ ⟨cell_of_one S3.h4, cell_of_one S3.h1⟩ (fun hHeld => ?_)
              clear hK K
              refine norm_ (a' := ?_) ?_ ?_
              rotate_left
              · show Act.put _ (some 75) _ = _
                simp only [Act.put, List.setIfInBounds_toArray, List.set_cons_zero, List.set_cons_succ, i64_w, i32_w]
                rfl
              refine pure_ (i := 11) (N := some 64) (v := ?_) (a' := ?_) #[true, true, true, true, true, true, true, true, true, true, true, true, false, false, false, false] rfl rfl (any_of HT_.out (by kernel_rfl)) (fun _ _ _ h => h) (Or.inl ⟨by rfl, ?_⟩) ?_ ?_
              rotate_left
              · intro w'
                go_simp
                with_reducible rfl
              rotate_left
              · simp only [Act.put, List.setIfInBounds_toArray, List.set_cons_zero, List.set_cons_succ, i64_w, i32_w]
                rfl
              refine pure_ (i := 12) (N := some 76) (v := ?_) (a' := ?_) #[true, true, true, true, true, true, true, true, true, true, true, true, true, false, false, false] rfl rfl (any_of HT_.out (by kernel_rfl)) (fun _ _ _ h => h) (Or.inl ⟨by rfl, ?_⟩) ?_ ?_
              rotate_left
              · intro w'
                go_simp
                with_reducible rfl
              rotate_left
              · simp only [Act.put, List.setIfInBounds_toArray, List.set_cons_zero, List.set_cons_succ, i64_w, i32_w]
                rfl
              refine pure_ (i := 13) (N := some 77) (v := ?_) (a' := ?_) #[true, true, true, true, true, true, true, true, true, true, true, true, true, true, false, false] rfl rfl (any_of HT_.out (by kernel_rfl)) (fun _ _ _ h => h) (Or.inl ⟨by rfl, ?_⟩) ?_ ?_
              rotate_left
              · intro w'
                go_simp
                with_reducible rfl
              rotate_left
              · simp only [Act.put, List.setIfInBounds_toArray, List.set_cons_zero, List.set_cons_succ, i64_w, i32_w]
                rfl
              refine pure_ (i := 14) (N := some 14) (v := ?_) (a' := ?_) #[true, true, true, true, true, true, true, true, true, true, true, true, true, true, true, false] rfl rfl (any_of HT_.out (by kernel_rfl)) (fun _ _ _ h => h) (Or.inl ⟨by rfl, ?_⟩) ?_ ?_
              rotate_left
              · intro w'
                go_simp
                with_reducible rfl
              rotate_left
              · simp only [Act.put, List.setIfInBounds_toArray, List.set_cons_zero, List.set_cons_succ, i64_w, i32_w]
                rfl
              refine pure_ (i := 15) (N := some 15) (v := ?_) (a' := ?_) #[true, true, true, true, true, true, true, true, true, true, true, true, true, true, true, true] rfl rfl (any_of HT_.out (by kernel_rfl)) (fun _ _ _ h => h) (Or.inl ⟨by rfl, ?_⟩) ?_ ?_
              rotate_left
              · intro w'
                go_simp
                with_reducible rfl
              rotate_left
              · simp only [Act.put, List.setIfInBounds_toArray, List.set_cons_zero, List.set_cons_succ, i64_w, i32_w]
                rfl
              refine done_ (done_of HT_.out (by kernel_rfl)) ?_
              cases R' with
              | some o =>
                have hfin : some o = R := HF1.out (some o) (by rw [if_pos hp]; exact HR'.out)
                subst hfin
                go_wp2
                go_ret2
                exact ⟨rfl, HB3.out⟩
              | none =>
                go_wp2
                go_roundg (gk - 1)
                case measure => have := hg.out; omega
                case rel => exact ⟨k + 1, by go_num, ⟨by have := hg.out; omega⟩, ⟨HF1.out none (by rw [if_pos hp]; exact HR'.out)⟩, ⟨HB3.out⟩⟩
          · rcases htt with ⟨rfl, rfl⟩ | ⟨rfl, rfl, hlt, heq⟩ | ⟨rfl, rfl, hlt, heq⟩
            all_goals
              go_wp2_with (go_at_call 29; refine (HM.out (s ++ y) W1 HB1.out HDG.out.1 (by rw [HDG.out.2]; omega) (by rw [HDG.out.2]; have := HZ.out; omega)).mono ?_; rintro e W2 ⟨rfl, hb2⟩; have HB2 := Aside0.mk (below_step HB1.out hb2); clear hb2; have S2 := HS.out.below HB2.out; have f1 := cell_of_one S2.h1; have f4 := cell_of_one S2.h4; clear S2 d1 d2 d3 d4 c1 c2 c3 c4 hcv)
              go_roundg (gk - 1)
              case measure => have := hg.out; omega
              case rel => exact ⟨k + 1, by go_num, ⟨by have := hg.out; omega⟩, ⟨HF1.out none (by rw [if_neg hp])⟩, ⟨HB2.out⟩⟩
      · obtain rfl : gk = 0 := by have := hg.out; omega
        have hk10 : decide ((k : Int) < 10) = false := decide_eq_false (by omega)
        have hfin : none = R := hF.out
        subst hfin
        go_wp2
        go_ret2
        exact ⟨rfl, hB.out⟩
end Go.Proofs.YtpdcjkiejglaiaaDoor.Q

/-
  'search' and 'nextAround', with the test of NextOfKind.
-/
namespace Go.Proofs.YtpdcjkiejglaiaaDoor.Q
open Go.RowKit Go.Proofs.YtpdcjkiejglaiaaDoorW.PrintWords Go.Proofs.YtpdcjkiejglaiaaDoorW.PrintLast Go.Proofs.YtpdcjkiejglaiaaDoorW.PrintMore
set_option linter.unusedVariables false
set_option linter.unusedSimpArgs false

theorem al_new (w : World) (o : Obj) (k : Nat) (h : k = w.heap.size) : (w.alloc o).heap[k]? = some o := by rw [h]; exact heap_alloc_new w o
theorem al_old (w : World) (o : Obj) (k : Nat) (h : k < w.heap.size) : (w.alloc o).heap[k]? = w.heap[k]? := (below_alloc (Below.refl w.heap.size w) o).block k h
theorem al_size (w : World) (o : Obj) : (w.alloc o).heap.size = w.heap.size + 1 := by simp

theorem search_sw (w : World) (bound : ByteArray) (mv : Value) (q : Value) :
    SW ((((w.alloc (Obj.cells #[Value.string bound] 9)).alloc (Obj.cells #[Value.bool false] 4)).alloc (Obj.cells #[mv] 37)).alloc (Obj.cells #[.func (.func 56) #[] #[.pointer (some ⟨w.heap.size, 0, none⟩), .pointer (some ⟨w.heap.size + 1, 0, none⟩), .pointer (some ⟨w.heap.size + 1 + 1, 0, none⟩), .pointer (some ⟨w.heap.size + 1 + 1 + 1, 0, none⟩)]] 34)) w.heap.size (w.heap.size + 1) (w.heap.size + 1 + 1) (w.heap.size + 1 + 1 + 1) bound mv := by
  constructor
  all_goals repeat (first | exact al_new _ _ _ (by simp only [al_size]) | exact al_new _ _ _ rfl | rw [al_old _ _ _ (by simp only [al_size]; omega)])
theorem dl_zero : ∀ n, dl n 0 = List.replicate n 48
  | 0 => rfl
  | n + 1 => by simp only [dl, Nat.zero_div, dl_zero n, List.replicate_succ']; rfl
theorem repL_zero : ∀ n, Lib.repeatL [48] n = List.replicate n 48
  | 0 => rfl
  | n + 1 => by simp only [Lib.repeatL, repL_zero n, List.replicate_succ]; rfl
theorem rep_zero (n : Nat) : (⟨(Lib.repeatL (⟨#[48]⟩ : ByteArray).data.toList n).toArray⟩ : ByteArray) = tx n 0 := by
  apply li_inj
  rw [li_tx, dl_zero]
  show li ⟨(Lib.repeatL [48] n).toArray⟩ = _
  rw [repL_zero]
  simp [li]

set_option maxHeartbeats 4000000 in
set_option maxRecDepth 100000 in
theorem search_any (bound : ByteArray) (n9 : bound.size ≤ 9) (pa pb : Nat) (p : ByteArray → Bool) (w : World)
    (M : MayOk w bound.size 29 #[.pointer (some ⟨pa, 0, none⟩), .pointer (some ⟨pb, 0, none⟩)] p) (R : Option ByteArray) (hR : fnd p bound bound.size ⟨#[]⟩ true = R) :
    Calls Tryd.prog 46 #[.string bound, .bool false, .func (.func 29) #[] #[.pointer (some ⟨pa, 0, none⟩), .pointer (some ⟨pb, 0, none⟩)]] w fun e w' => e = .returned (.tuple #[.string (outT R), .bool R.isSome]) ∧ Below w.heap.size w w' := by
  have HR := Aside0.mk hR
  have HM := Aside0.mk M
  clear hR M
  go_enter Tryd.func46, Tryd.ntmps46
  go_wp2_with (go_at_call 56; refine (find_any bound n9 pa pb p _ _ _ _ bound.size ⟨#[]⟩ true _ (Nat.zero_add _) rfl (search_sw w bound _ .nilFunc) (HM.out.below (below_alloc (below_alloc (below_alloc (below_alloc (Below.refl _ _) _) _) _) _)) R HR.out).mono ?_; rintro e w1 ⟨rfl, hb⟩; have HB := Aside0.mk (below_step (below_alloc (below_alloc (below_alloc (below_alloc (Below.refl w.heap.size w) _) _) _) _) hb); clear hb)
  go_ret2
  exact ⟨rfl, HB.out⟩

set_option maxHeartbeats 4000000 in
set_option maxRecDepth 100000 in
theorem around_any (reading : ByteArray) (n9 : reading.size ≤ 9) (pa pb : Nat) (p : ByteArray → Bool) (w : World)
    (M : MayOk w reading.size 29 #[.pointer (some ⟨pa, 0, none⟩), .pointer (some ⟨pb, 0, none⟩)] p) (R1 R2 : Option ByteArray) (h1 : fnd p reading reading.size ⟨#[]⟩ true = R1) (h2 : fnd p (tx reading.size 0) reading.size ⟨#[]⟩ true = R2) :
    Calls Tryd.prog 28 #[.string reading, .func (.func 29) #[] #[.pointer (some ⟨pa, 0, none⟩), .pointer (some ⟨pb, 0, none⟩)]] w fun e w' => e = .returned (.tuple #[.string (outT (R1.or R2)), .bool (R1.or R2).isSome]) ∧ Below w.heap.size w w' := by
  have HR1 := Aside0.mk h1
  have HR2 := Aside0.mk h2
  have HM := Aside0.mk M
  have hrep := rep_zero reading.size
  have hz := tx_size reading.size 0
  clear h1 h2 M
  generalize tx reading.size 0 = z at HR2 hrep hz
  have HZ := Aside0.mk hz
  clear hz
  cases R1 with
  | some o =>
    go_enter Tryd.func28, Tryd.ntmps28
    go_wp2_with (go_at_call 46; refine (search_any reading n9 pa pb p w HM.out (some o) HR1.out).mono ?_; rintro e w1 ⟨rfl, hb⟩)
    go_ret2
    exact ⟨rfl, hb⟩
  | none =>
    go_enter Tryd.func28, Tryd.ntmps28
    go_wp2_with (first | (go_at_call 46; first | (with_reducible refine (search_any reading n9 pa pb p w HM.out none HR1.out).mono ?_; rintro e w1 ⟨rfl, hb⟩) | (with_reducible refine (search_any z (by rw [HZ.out]; exact n9) pa pb p _ (by rw [HZ.out]; exact HM.out.below (below_step hb hb2)) R2 (by rw [HZ.out]; exact HR2.out)).mono ?_; rintro e w3 ⟨rfl, hb3⟩)) | (go_at_call 47; refine (Tryd.strings_Repeat ⟨#[48]⟩ reading.size _ (by omega) (by show 1 * reading.size ≤ _; omega)).mono ?_; rintro e w2 ⟨rfl, hb2⟩; rw [hrep]))
    go_ret2
    exact ⟨rfl, below_step (below_step hb hb2) hb3⟩

end Go.Proofs.YtpdcjkiejglaiaaDoor.Q

/-
  A number's digits with zeros in front: the digit text of so many places.
-/
namespace Go.Proofs.YtpdcjkiejglaiaaDoor.Q
open Go.RowKit Go.Proofs.YtpdcjkiejglaiaaDoorW.PrintWords Go.Proofs.YtpdcjkiejglaiaaDoorW.PrintLast Go.Proofs.YtpdcjkiejglaiaaDoorW.PrintMore
set_option linter.unusedVariables false
set_option linter.unusedSimpArgs false

theorem dig_toNat (u : Nat) (h : u < 10) : ((UInt8.ofNat (48 + u)).toNat : Int) = 48 + (u : Int) := by
  simp
  omega
theorem pad_dl : ∀ (d u : Nat), u < 10 ^ (d + 1) → Lib.nDigits u ≤ d + 1 ∧ List.replicate (d + 1 - Lib.nDigits u) 48 ++ (Lib.decDigits u).map (fun c => (c.toNat : Int)) = dl (d + 1) u
  | 0, u, h => by
    have hu : u < 10 := by simpa using h
    rw [Lib.nDigits_small hu, Lib.decDigits_one hu]
    refine ⟨Nat.le_refl _, ?_⟩
    simp only [List.map_cons, List.map_nil, dl, dig_toNat u hu, Nat.mod_eq_of_lt hu]
    rfl
  | d + 1, u, h => by
    by_cases hu : u < 10
    · rw [Lib.nDigits_small hu, Lib.decDigits_one hu]
      refine ⟨by omega, ?_⟩
      simp only [List.map_cons, List.map_nil, dig_toNat u hu]
      have e : dl (d + 1 + 1) u = dl (d + 1) (u / 10) ++ [48 + ((u % 10 : Nat) : Int)] := rfl
      rw [e, Nat.div_eq_of_lt hu, dl_zero, Nat.mod_eq_of_lt hu]
      rfl
    · have ih := pad_dl d (u / 10) (by rw [Nat.pow_succ] at h; omega)
      rw [Lib.nDigits_big hu]
      refine ⟨by omega, ?_⟩
      have e : dl (d + 1 + 1) u = dl (d + 1) (u / 10) ++ [48 + ((u % 10 : Nat) : Int)] := rfl
      have e2 : Lib.decDigits u = Lib.decDigits (u / 10) ++ [UInt8.ofNat (48 + u % 10)] := by
        rw [Lib.decDigits, dif_neg hu]
      rw [e, e2, ← ih.2, List.map_append, show d + 1 + 1 - (Lib.nDigits (u / 10) + 1) = d + 1 - Lib.nDigits (u / 10) by omega, List.append_assoc]
      simp only [List.map_cons, List.map_nil, dig_toNat (u % 10) (by omega)]

end Go.Proofs.YtpdcjkiejglaiaaDoor.Q

/-
  'padded': a number's digits with zeros in front. It wants the library's table of powers of ten.
-/
namespace Go.Proofs.YtpdcjkiejglaiaaDoor.Q
open Go.RowKit Go.Proofs.YtpdcjkiejglaiaaDoorW.PrintWords Go.Proofs.YtpdcjkiejglaiaaDoorW.PrintLast Go.Proofs.YtpdcjkiejglaiaaDoorW.PrintMore
set_option linter.unusedVariables false
set_option linter.unusedSimpArgs false
attribute [local go_sem] max2_int min2_int max_two min_two

/-- the premise on the library's table -/
def Tab (w : World) : Prop := Lib.TabIs Tryd.prog w "internal/strconv.uint64pow10" .u64 Lib.pow10Tab
theorem Tab.below {w w' : World} (h : Tab w) (hb : Below w.heap.size w w') : Tab w' := by
  unfold Tab Lib.TabIs World.var? at *
  cases hg : Tryd.prog.globalNamed "internal/strconv.uint64pow10" with
  | none => simp [hg] at h
  | some g =>
    simp only [hg, Option.bind_some] at h ⊢
    have hlt : g < w.heap.size := by
      rcases Nat.lt_or_ge g w.heap.size with h' | h'
      · exact h'
      · simp [Array.getElem?_eq_none h'] at h
    rw [hb.block g hlt]
    exact h
theorem below_grow' (w : World) (k : Nat) (os : Array Obj) : Below w.heap.size w (Sort.grow (w.drewN k) os) := by
  refine ⟨rfl, rfl, rfl, ?_, fun i hi => ?_⟩
  · show w.heap.size ≤ (w.heap ++ os).size
    simp
  · show (w.heap ++ os)[i]? = w.heap[i]?
    rw [Array.getElem?_append, if_pos hi]

set_option maxHeartbeats 4000000 in
set_option maxRecDepth 100000 in
theorem padded_any (u d : Nat) (w : World) (T : Tab w) (h1 : 1 ≤ d) (h9 : d ≤ 9) (hu : u < 10 ^ d) :
    Calls Tryd.prog 44 #[.int .i64 (u : Int), .int .i64 (d : Int)] w fun e w' => e = .returned (.string (tx d u)) ∧ Below w.heap.size w w' := by
  have hp := pow_le h9
  obtain ⟨d', rfl⟩ : ∃ d', d = d' + 1 := ⟨d - 1, by omega⟩
  obtain ⟨hle, hpad⟩ := pad_dl d' u hu
  have hT := Aside0.mk T
  clear T
  obtain ⟨s, hs⟩ : ∃ s : ByteArray, s = ⟨(Lib.itoa (u : Int)).toArray⟩ := ⟨_, rfl⟩
  have hsz : s.size = Lib.nDigits u := by rw [hs, Lib.itoa_nonneg]; show (Lib.decDigits u).toArray.size = _; simp [Lib.decDigits_length]
  have HS := Aside0.mk hs
  have hu0 : -9223372036854775808 ≤ (u : Int) := by omega
  have hu1 : (u : Int) ≤ 9223372036854775807 := by omega
  obtain ⟨q, hq⟩ : ∃ q, q = d' + 1 - s.size := ⟨_, rfl⟩
  have em : wrap64 (((d' + 1 : Nat) : Int) - (s.size : Int)) = (q : Int) := by rw [wrap_id (by omega) (by omega)]; omega
  have ex : mx 0 (q : Int) = (q : Int) := by unfold mx; by_cases c : (0 : Int) < (q : Int); · rw [if_pos c]
                                             · rw [if_neg c]; omega
  have hrep : (⟨(Lib.repeatL (⟨#[48]⟩ : ByteArray).data.toList q).toArray⟩ : ByteArray) ++ s = tx (d' + 1) u := by
    apply li_inj
    rw [li_append, li_tx, ← hpad, rep_zero, li_tx, dl_zero, hq, hsz, hs, Lib.itoa_nonneg]
    simp [li]
  have hrz : (⟨(Lib.repeatL (⟨#[48]⟩ : ByteArray).data.toList q).toArray⟩ : ByteArray).size + s.size ≤ 9223372036854775807 := by rw [rep_zero, tx_size]; omega
  obtain ⟨z, hz⟩ : ∃ z, (⟨(Lib.repeatL (⟨#[48]⟩ : ByteArray).data.toList q).toArray⟩ : ByteArray) = z := ⟨_, rfl⟩
  rw [hz] at hrep hrz
  have HZ := Aside0.mk hz
  have HREP := Aside0.mk hrep
  clear hz hrep
  have HQ := Aside0.mk hq
  have HQ9 := Aside0.mk (show q ≤ 9 by omega)
  have HSZ := Aside0.mk hsz
  clear hs hpad
  go_enter Tryd.func44, Tryd.ntmps44
  have em' : wrap64 ((d' : Int) + 1 - (s.size : Int)) = (q : Int) := em
  go_wp2_with (first | (go_at_call 21; refine (Tryd.strconv_Itoa (u : Int) hu0 hu1 _ hT.out).mono ?_; rintro e w1 ⟨rfl, k1, os, rfl⟩; rw [← HS.out]; have HB1 := Aside0.mk (below_grow' w k1 os); generalize Sort.grow (w.drewN k1) os = w1 at HB1 ⊢))
  all_goals
    refine calls_of_args (args' := #[.string ⟨#[48]⟩, .int .i64 (q : Int)]) (by have h1 := HQ.out; have h2 := HSZ.out; congr 3; refine congrArg (Value.int IntKind.i64) ?_; omega) ?_
    refine (Tryd.strings_Repeat ⟨#[48]⟩ q w1 (by have := HQ9.out; omega) (by show 1 * q ≤ _; have := HQ9.out; omega)).mono ?_
    rintro e w2 ⟨rfl, hb⟩
    rw [HZ.out]
    go_wp2
    go_ret
    exact ⟨by rw [← HREP.out]; rfl, below_step HB1.out hb⟩

end Go.Proofs.YtpdcjkiejglaiaaDoor.Q

/- Laid by a program of this session (wip/tools/own_print.py) over the translation of this seat: contracts of the functions that the statement reaches. -/
namespace Go.Proofs.YtpdcjkiejglaiaaDoor.Q
open Go.RowKit Go.Proofs.YtpdcjkiejglaiaaDoorW.PrintWords Go.Proofs.YtpdcjkiejglaiaaDoorW.PrintLast Go.Proofs.YtpdcjkiejglaiaaDoorW.PrintMore
attribute [local go_sem] max2_int min2_int max_two min_two max_three min_three max_four min_four   -- for this text's walks alone
set_option linter.unusedVariables false
set_option linter.unusedSimpArgs false

/-! ### spec_l1HasS: function 41 -/
def spec_l1HasS.l0 : Nat → ByteArray → List ByteArray → Int → Int → Option (Bool)
  | 0, _, _, _, _ => none
  | k + 1, x1, x7, x8, x9 => if x9 < x8 then (if 0 ≤ x9 then (if x9 < (x7.length : Int) then (if (rdOf ByteArray.empty x7 x9).toList = x1.toList then (some true) else (spec_l1HasS.l0 k x1 x7 x8 (wrap64 (x9 + 1)))) else (none)) else (none)) else (some false)
def spec_l1HasS.f (k : Nat) (l0 : List ByteArray) (a1 : ByteArray) : Option (Bool) := spec_l1HasS.l0 k a1 l0 (l0.length : Int) 0
theorem spec_l1HasS.mono_l : ∀ k, (∀ y0 y1 y2 y3, LeO (spec_l1HasS.l0 k y0 y1 y2 y3) (spec_l1HasS.l0 (k + 1) y0 y1 y2 y3))
  | 0 => fun _ _ _ _ r h => by simp [spec_l1HasS.l0] at h
  | k + 1 => by
    have ih0 := spec_l1HasS.mono_l k
    · intro y0 y1 y2 y3
      unfold spec_l1HasS.l0
      repeat' first
      | (with_reducible exact ih0 _ _ _ _)
      | (with_reducible exact LeO.refl _)
      | (with_reducible exact LeO.none _)
      | (with_reducible refine LeO.ite ?_ ?_)
      | (with_reducible refine LeO.bind ?_ (fun _ => ?_))
      | exact ih0 _ _ _ _
      | exact LeO.none _
      | refine LeO.ite ?_ ?_
      | refine LeO.bind ?_ (fun _ => ?_)
theorem spec_l1HasS.mono : ∀ a0 a1 k, LeO (spec_l1HasS.f k a0 a1) (spec_l1HasS.f (k + 1) a0 a1) := by
  intro a0 a1 k
  have ih0 := spec_l1HasS.mono_l k
  unfold spec_l1HasS.f
  repeat' first
      | (with_reducible exact ih0 _ _ _ _)
      | (with_reducible exact LeO.refl _)
      | (with_reducible exact LeO.none _)
      | (with_reducible refine LeO.ite ?_ ?_)
      | (with_reducible refine LeO.bind ?_ (fun _ => ?_))
      | exact ih0 _ _ _ _
      | exact LeO.none _
      | refine LeO.ite ?_ ?_
      | refine LeO.bind ?_ (fun _ => ?_)
set_option maxHeartbeats 8000000 in
set_option maxRecDepth 100000 in
theorem spec_l1HasS.calls (k : Nat) (A0 : Option Addr) (c0 : Nat) (l0 : List ByteArray) (a1 : ByteArray) (r : Bool) (w : World) (hr0 : Kd.C Kd.string w A0 l0.length l0) (hc0 : l0.length ≤ c0) (h : spec_l1HasS.f k l0 a1 = some r) :
    Calls Tryd.prog 41 #[.slice A0 l0.length c0, .string a1] w fun e w' => e = .returned (.bool r) ∧ Drawn0 w w' := by
  have HR0 := Aside0.mk hr0
  have HC0 := Aside0.mk hc0
  clear hr0 hc0
  have H : (spec_l1HasS.l0 k a1 l0 (l0.length : Int) 0) = some r := h
  clear h
  have H' := Aside0.mk H
  clear H
  go_enter Tryd.func41, Tryd.ntmps41
  go_wp2
  go_loopg [9] k (fun kq v9 w' => ∃ (x9_1 : Int), v9 = .int .i64 x9_1 ∧ Aside0 (spec_l1HasS.l0 kq a1 l0 (l0.length : Int) x9_1 = some r) ∧ Aside0 (kq ≤ k) ∧ Drawn0 w w')
  case atStart => exact ⟨(0), (by first | rfl | (simp; done) | (simp [*]; done)), H', ⟨Nat.le_refl _⟩, by repeat (first | exact Drawn0.refl _ | apply Drawn0.step)⟩
  case round =>
    clear H'
    try clear p2
    obtain ⟨x9_1, rfl, HA, HK1, ⟨m1, rfl⟩⟩ := hrel
    cases gk with
    | zero => exact absurd HA.out (by simp [spec_l1HasS.l0])
    | succ k1 =>
      have H := HA.out
      clear HA
      simp only [spec_l1HasS.l0] at H
      by_cases c3 : x9_1 < (l0.length : Int)
      · rw [if_pos c3] at H
        have c3b0 : decide (x9_1 < (l0.length : Int)) = true := decide_eq_true c3
        clear c3
        by_cases c4 : 0 ≤ x9_1
        · rw [if_pos c4] at H
          have c4b0 : decide (0 ≤ x9_1) = true := decide_eq_true c4
          clear c4
          by_cases c5 : x9_1 < (l0.length : Int)
          · rw [if_pos c5] at H
            have c5b0 : decide (x9_1 < (l0.length : Int)) = true := decide_eq_true c5
            clear c5
            by_cases c6 : (rdOf ByteArray.empty l0 x9_1).toList = a1.toList
            · rw [if_pos c6] at H
              have c6b0 : ((rdOf ByteArray.empty l0 x9_1).toList == a1.toList) = true := beq_iff_eq.mpr c6
              have c6b1 : ((rdOf ByteArray.empty l0 x9_1).toList != a1.toList) = false := bne_eq_false_iff_eq.mpr c6
              clear c6
              obtain rfl := Option.some.inj H
              have p101 : 0 ≤ (x9_1 : Int) := of_decide_eq_true (by first | (with_reducible assumption) | assumption)
              have q101 : x9_1 < (l0.length : Int) := of_decide_eq_true (by first | (with_reducible assumption) | assumption)
              obtain ⟨ad101, e101, hx101_0⟩ := Kd.at_string HR0.out x9_1 p101 q101
              cases e101
              replace p101 := eq_true p101
              replace q101 := eq_true q101
              go_wp2
              go_ret
              exact ⟨by first | rfl | (simp; done) | (simp [*]; done), by repeat (first | exact Drawn0.refl _ | apply Drawn0.step)⟩
            · rw [if_neg c6] at H
              have c6b0 : ((rdOf ByteArray.empty l0 x9_1).toList == a1.toList) = false := beq_eq_false_iff_ne.mpr c6
              have c6b1 : ((rdOf ByteArray.empty l0 x9_1).toList != a1.toList) = true := bne_iff_ne.mpr c6
              have H' := Aside0.mk H
              clear H
              have p101 : 0 ≤ (x9_1 : Int) := of_decide_eq_true (by first | (with_reducible assumption) | assumption)
              have q101 : x9_1 < (l0.length : Int) := of_decide_eq_true (by first | (with_reducible assumption) | assumption)
              obtain ⟨ad101, e101, hx101_0⟩ := Kd.at_string HR0.out x9_1 p101 q101
              cases e101
              replace p101 := eq_true p101
              replace q101 := eq_true q101
              go_wp2
              go_roundg k1
              case measure => have := HK1.out; omega
              case rel => exact ⟨(wrap64 (x9_1 + 1)), (by first | rfl | (simp; done) | (simp [*]; done)), H', ⟨by have := HK1.out; omega⟩, by repeat (first | exact Drawn0.refl _ | apply Drawn0.step)⟩
          · rw [if_neg c5] at H
            exact absurd H (by simp)
        · rw [if_neg c4] at H
          exact absurd H (by simp)
      · rw [if_neg c3] at H
        have c3b0 : decide (x9_1 < (l0.length : Int)) = false := decide_eq_false c3
        clear c3
        obtain rfl := Option.some.inj H
        go_wp2
        go_ret
        exact ⟨by first | rfl | (simp; done) | (simp [*]; done), by repeat (first | exact Drawn0.refl _ | apply Drawn0.step)⟩

end Go.Proofs.YtpdcjkiejglaiaaDoor.Q

/- Laid by a program of this session (wip/tools/own_print.py) over the translation of this seat: contracts of the functions that the statement reaches. -/
namespace Go.Proofs.YtpdcjkiejglaiaaDoor.Q
open Go.RowKit Go.Proofs.YtpdcjkiejglaiaaDoorW.PrintWords Go.Proofs.YtpdcjkiejglaiaaDoorW.PrintLast Go.Proofs.YtpdcjkiejglaiaaDoorW.PrintMore
attribute [local go_sem] max2_int min2_int max_two min_two max_three min_three max_four min_four   -- for this text's walks alone
set_option linter.unusedVariables false
set_option linter.unusedSimpArgs false

/-! ### spec_miKind: function 24 -/
def spec_miKind.f (k : Nat) (a0 : ByteArray) : Option (Bool) := if (a0.size : Int) = 1 then ((spec_l1HasS.f k (([(⟨#[97]⟩ : ByteArray), (⟨#[109]⟩ : ByteArray), (⟨#[117]⟩ : ByteArray), (⟨#[114]⟩ : ByteArray), (⟨#[102]⟩ : ByteArray), (⟨#[100]⟩ : ByteArray)] : List ByteArray)) a0).bind fun t104 => (some t104)) else (some false)
theorem spec_miKind.mono : ∀ a0 k, LeO (spec_miKind.f k a0) (spec_miKind.f (k + 1) a0) := by
  intro a0 k
  unfold spec_miKind.f
  repeat' first
      | (with_reducible exact spec_l1HasS.mono _ _ _)
      | (with_reducible exact LeO.refl _)
      | (with_reducible exact LeO.none _)
      | (with_reducible refine LeO.ite ?_ ?_)
      | (with_reducible refine LeO.bind ?_ (fun _ => ?_))
      | exact spec_l1HasS.mono _ _ _
      | exact LeO.none _
      | refine LeO.ite ?_ ?_
      | refine LeO.bind ?_ (fun _ => ?_)
set_option maxHeartbeats 8000000 in
set_option maxRecDepth 100000 in
theorem spec_miKind.calls (k : Nat) (a0 : ByteArray) (r : Bool) (w : World) (h : spec_miKind.f k a0 = some r) :
    Calls Tryd.prog 24 #[.string a0] w fun e w' => e = .returned (.bool r) ∧ Below w.heap.size w w' := by
  have HB := Aside0.mk (Below.refl w.heap.size w)
  have H : (if (a0.size : Int) = 1 then ((spec_l1HasS.f k (([(⟨#[97]⟩ : ByteArray), (⟨#[109]⟩ : ByteArray), (⟨#[117]⟩ : ByteArray), (⟨#[114]⟩ : ByteArray), (⟨#[102]⟩ : ByteArray), (⟨#[100]⟩ : ByteArray)] : List ByteArray)) a0).bind fun t104 => (some t104)) else (some false)) = some r := h
  clear h
  by_cases c2 : (a0.size : Int) = 1
  · rw [if_pos c2] at H
    have c2b0 : ((a0.size : Int) == 1) = true := beq_iff_eq.mpr c2
    have c2b1 : ((a0.size : Int) != 1) = false := bne_eq_false_iff_eq.mpr c2
    clear c2
    obtain ⟨y101, hy101⟩ : ∃ y_ : List ByteArray, y_ = (([(⟨#[97]⟩ : ByteArray), (⟨#[109]⟩ : ByteArray), (⟨#[117]⟩ : ByteArray), (⟨#[114]⟩ : ByteArray), (⟨#[102]⟩ : ByteArray), (⟨#[100]⟩ : ByteArray)] : List ByteArray)) := ⟨_, rfl⟩
    replace H : ((spec_l1HasS.f k y101 a0).bind fun t104 => (some t104)) = some r := by first | (rw [hy101]; with_reducible exact H) | (have H2_ := (Option.bind_some _ _).symm.trans H; rw [hy101]; with_reducible exact H2_) | (have H2_ := (Option.bind_some _ _).symm.trans H; with_reducible exact H2_) | with_reducible exact H | (rw [hy101]; exact H) | exact H
    have Ny101 := Aside0.mk hy101
    clear hy101
    replace H := Option.bind_eq_some_iff.mp H
    obtain ⟨t104, A30, H⟩ := H
    replace H : (some t104) = some r := H
    have A3 := Aside0.mk A30
    clear A30
    obtain rfl := Option.some.inj H
    go_enter Tryd.func24, Tryd.ntmps24
    go_wp2_with (first | ((with_reducible refine gate_dst (N := 7) rfl ?_); (try (refine gate_guard (by rfl) ?_; dsimp only)); refine Kd.R_lit Kd.string _ 9 ?hg (N := 7) ?hd (xs := ([(⟨#[97]⟩ : ByteArray), (⟨#[109]⟩ : ByteArray), (⟨#[117]⟩ : ByteArray), (⟨#[114]⟩ : ByteArray), (⟨#[102]⟩ : ByteArray), (⟨#[100]⟩ : ByteArray)] : List ByteArray)) (inner := [.string (⟨#[97]⟩ : ByteArray), .string (⟨#[109]⟩ : ByteArray), .string (⟨#[117]⟩ : ByteArray), .string (⟨#[114]⟩ : ByteArray), .string (⟨#[102]⟩ : ByteArray), .string (⟨#[100]⟩ : ByteArray)]) (ok := fun _ => True) (okp := fun _ => True) ?hr ?hp (fun _ hk => hk) trivial (Below.refl _ _) (Nat.le_refl _) (by simp) ?_; (case hd => rfl); (case hg => rfl); (case hr => first | (go_simp; done) | (go_simp; rfl)); (case hp => exact (Reps.one (show Kd.M Kd.string _ _ _ (⟨#[97]⟩ : ByteArray) [.string (⟨#[97]⟩ : ByteArray)] from rfl) (Reps.one (show Kd.M Kd.string _ _ _ (⟨#[109]⟩ : ByteArray) [.string (⟨#[109]⟩ : ByteArray)] from rfl) (Reps.one (show Kd.M Kd.string _ _ _ (⟨#[117]⟩ : ByteArray) [.string (⟨#[117]⟩ : ByteArray)] from rfl) (Reps.one (show Kd.M Kd.string _ _ _ (⟨#[114]⟩ : ByteArray) [.string (⟨#[114]⟩ : ByteArray)] from rfl) (Reps.one (show Kd.M Kd.string _ _ _ (⟨#[102]⟩ : ByteArray) [.string (⟨#[102]⟩ : ByteArray)] from rfl) (Reps.one (show Kd.M Kd.string _ _ _ (⟨#[100]⟩ : ByteArray) [.string (⟨#[100]⟩ : ByteArray)] from rfl) (Reps.none _ _)))))))); intro v102 w4 ho5 hb hg_ hnew_; clear hg_ hnew_; (first | rw [← Ny101.out] at ho5 | (simp only [Int.reduceToNat] at ho5; rw [← Ny101.out] at ho5)); have n0_ := Aside0.mk (Kd.R_lower ho5 (below_size (by repeat (first | (with_reducible first | exact HB.out | apply below_alloc | apply pw_below_drewN | apply below_drew1) | exact HB.out)))); have n1_ := Aside0.mk (below_step (by repeat (first | (with_reducible first | exact HB.out | apply below_alloc | apply pw_below_drewN | apply below_drew1) | exact HB.out)) hb); clear HB; have HO103 := n0_; have HB := n1_; clear n0_ n1_; clear hb ho5; obtain ⟨Ao6, co6, eo6⟩ := Kd.R_slice HO103.out; subst eo6) | (go_at_call 41; (with_reducible refine (spec_l1HasS.calls k _ _ y101 a0 t104 _ ?side1 ?side2 A3.out).mono ?_); (case side1 => repeat (first | exact (Kd.R_reads' HO103.out).2.2 | (with_reducible refine Kd.C_alloc ?_ _) | (with_reducible refine Kd.C_drewN ?_ _) | (with_reducible refine Kd.C_drew ?_))); (case side2 => exact (Kd.R_reads' HO103.out).2.1); rintro e w' ⟨rfl, ⟨nd, rfl⟩⟩))
    go_ret
    exact ⟨by first | rfl | (simp [errW_none, errW_some] <;> rfl) | (simp [*, errW_none, errW_some] <;> rfl), by repeat (first | (with_reducible first | exact HB.out | apply below_alloc | apply pw_below_drewN | apply below_drew1) | exact HB.out)⟩
  · rw [if_neg c2] at H
    have c2b0 : ((a0.size : Int) == 1) = false := beq_eq_false_iff_ne.mpr c2
    have c2b1 : ((a0.size : Int) != 1) = true := bne_iff_ne.mpr c2
    obtain rfl := Option.some.inj H
    go_enter Tryd.func24, Tryd.ntmps24
    go_wp2
    go_ret
    exact ⟨by first | rfl | (simp [errW_none, errW_some] <;> rfl) | (simp [*, errW_none, errW_some] <;> rfl), by repeat (first | (with_reducible first | exact HB.out | apply below_alloc | apply pw_below_drewN | apply below_drew1) | exact HB.out)⟩

end Go.Proofs.YtpdcjkiejglaiaaDoor.Q

/- Laid by a program of this session (wip/tools/own_print.py) over the translation of this seat: contracts of the functions that the statement reaches. -/
namespace Go.Proofs.YtpdcjkiejglaiaaDoor.Q
open Go.RowKit Go.Proofs.YtpdcjkiejglaiaaDoorW.PrintWords Go.Proofs.YtpdcjkiejglaiaaDoorW.PrintLast Go.Proofs.YtpdcjkiejglaiaaDoorW.PrintMore
attribute [local go_sem] max2_int min2_int max_two min_two max_three min_three max_four min_four   -- for this text's walks alone
set_option linter.unusedVariables false
set_option linter.unusedSimpArgs false

/-! ### spec_miCan: function 52 -/
mutual
def spec_miCan.l0 : Nat → Int → ByteArray → ByteArray → Int → Int → Option (Bool)
  | 0, _, _, _, _, _ => none
  | k + 1, x0, x1, x2, x7, x8 => if x8 < x7 then (if 0 ≤ x8 then (if x8 ≤ (wrap64 (x8 + 1)) then (if (wrap64 (x8 + 1)) ≤ (x1.size : Int) then (if x2.toList = ([117] : List UInt8) then ((spec_miUpside.f k (x1.extract (x8 : Int).toNat ((wrap64 (x8 + 1)) : Int).toNat)).bind fun bt106 => (if bt106.2 = true then (if (wrap64 ((wrap64 (2 * x8)) + 1)) = x0 then (spec_miCan.j1 k x0 x1 x2 x7 x8 bt106.1 (bt106.1.toList != (x1.extract (x8 : Int).toNat ((wrap64 (x8 + 1)) : Int).toNat).toList)) else (spec_miCan.j1 k x0 x1 x2 x7 x8 bt106.1 false)) else (spec_miCan.j1 k x0 x1 x2 x7 x8 bt106.1 true))) else (if (wrap64 ((wrap64 (x0 - 1)) - x8)) < x7 then (if 0 ≤ (wrap64 ((wrap64 (x0 - 1)) - x8)) then (if (wrap64 ((wrap64 (x0 - 1)) - x8)) ≤ (wrap64 ((wrap64 ((wrap64 (x0 - 1)) - x8)) + 1)) then (if (wrap64 ((wrap64 ((wrap64 (x0 - 1)) - x8)) + 1)) ≤ (x1.size : Int) then (if (x1.extract ((wrap64 ((wrap64 (x0 - 1)) - x8)) : Int).toNat ((wrap64 ((wrap64 ((wrap64 (x0 - 1)) - x8)) + 1)) : Int).toNat).toList = (x1.extract (x8 : Int).toNat ((wrap64 (x8 + 1)) : Int).toNat).toList then (spec_miCan.l0 k x0 x1 x2 x7 (wrap64 (x8 + 1))) else (some false)) else (none)) else (none)) else (none)) else (spec_miCan.l0 k x0 x1 x2 x7 (wrap64 (x8 + 1))))) else (none)) else (none)) else (none)) else (some true)
def spec_miCan.j1 : Nat → Int → ByteArray → ByteArray → Int → Int → ByteArray → Bool → Option (Bool)
  | 0, _, _, _, _, _, _, _ => none
  | k + 1, x0, x1, x2, x7, x8, x10, x104 => if x104 = true then (some false) else (if (wrap64 ((wrap64 (x0 - 1)) - x8)) < x7 then (if 0 ≤ (wrap64 ((wrap64 (x0 - 1)) - x8)) then (if (wrap64 ((wrap64 (x0 - 1)) - x8)) ≤ (wrap64 ((wrap64 ((wrap64 (x0 - 1)) - x8)) + 1)) then (if (wrap64 ((wrap64 ((wrap64 (x0 - 1)) - x8)) + 1)) ≤ (x1.size : Int) then (if (x1.extract ((wrap64 ((wrap64 (x0 - 1)) - x8)) : Int).toNat ((wrap64 ((wrap64 ((wrap64 (x0 - 1)) - x8)) + 1)) : Int).toNat).toList = x10.toList then (spec_miCan.l0 k x0 x1 x2 x7 (wrap64 (x8 + 1))) else (some false)) else (none)) else (none)) else (none)) else (spec_miCan.l0 k x0 x1 x2 x7 (wrap64 (x8 + 1))))
end
def spec_miCan.f (k : Nat) (a0 : Int) (a1 : ByteArray) (a2 : ByteArray) : Option (Bool) := if (a1.size : Int) = a0 then ((spec_miIs.f k a1 a2).bind fun t101 => (some t101)) else (if a2.toList = ([97] : List UInt8) then ((spec_miDigits.f a1).bind fun t102 => (some (decide (t102 ≤ 1)))) else (if a2.toList = ([100] : List UInt8) then ((spec_miDigits.f a1).bind fun t103 => (some (t103 == (a1.size : Int)))) else (if a2.toList = ([114] : List UInt8) then ((spec_miIs.f k a1 (⟨#[114]⟩ : ByteArray)).bind fun t104 => (if t104 = true then (if (a1.size : Int) = 0 then (some true) else (if 0 ≤ (wrap64 ((a1.size : Int) - 1)) then (if (wrap64 ((a1.size : Int) - 1)) < (a1.size : Int) then (some (decide (((57 - (bt a1 (wrap64 ((a1.size : Int) - 1)))) % 256) ≥ (wrap64 (a0 - (a1.size : Int)))))) else (none)) else (none))) else (some false))) else (if a2.toList = ([102] : List UInt8) then ((spec_miIs.f k a1 (⟨#[102]⟩ : ByteArray)).bind fun t105 => (if t105 = true then (if (a1.size : Int) = 0 then (some true) else (if 0 ≤ (wrap64 ((a1.size : Int) - 1)) then (if (wrap64 ((a1.size : Int) - 1)) < (a1.size : Int) then (some (decide ((((bt a1 (wrap64 ((a1.size : Int) - 1))) - 48) % 256) ≥ (wrap64 (a0 - (a1.size : Int)))))) else (none)) else (none))) else (some false))) else (spec_miCan.l0 k a0 a1 a2 (a1.size : Int) 0)))))
theorem spec_miCan.mono_l : ∀ k, (∀ y0 y1 y2 y3 y4, LeO (spec_miCan.l0 k y0 y1 y2 y3 y4) (spec_miCan.l0 (k + 1) y0 y1 y2 y3 y4)) ∧ (∀ y0 y1 y2 y3 y4 y5 y6, LeO (spec_miCan.j1 k y0 y1 y2 y3 y4 y5 y6) (spec_miCan.j1 (k + 1) y0 y1 y2 y3 y4 y5 y6))
  | 0 => ⟨fun _ _ _ _ _ r h => by simp [spec_miCan.l0] at h, fun _ _ _ _ _ _ _ r h => by simp [spec_miCan.j1] at h⟩
  | k + 1 => by
    obtain ⟨ih0, ih1⟩ := spec_miCan.mono_l k
    refine ⟨?_, ?_⟩
    · intro y0 y1 y2 y3 y4
      unfold spec_miCan.l0
      repeat' first
      | (with_reducible exact ih0 _ _ _ _ _)
      | (with_reducible exact ih1 _ _ _ _ _ _ _)
      | (with_reducible exact spec_miIs.mono _ _ _)
      | (with_reducible exact spec_miUpside.mono _ _)
      | (with_reducible exact LeO.refl _)
      | (with_reducible exact LeO.none _)
      | (with_reducible refine LeO.ite ?_ ?_)
      | (with_reducible refine LeO.bind ?_ (fun _ => ?_))
      | exact ih0 _ _ _ _ _
      | exact ih1 _ _ _ _ _ _ _
      | exact spec_miIs.mono _ _ _
      | exact spec_miUpside.mono _ _
      | exact LeO.none _
      | refine LeO.ite ?_ ?_
      | refine LeO.bind ?_ (fun _ => ?_)
    · intro y0 y1 y2 y3 y4 y5 y6
      unfold spec_miCan.j1
      repeat' first
      | (with_reducible exact ih0 _ _ _ _ _)
      | (with_reducible exact ih1 _ _ _ _ _ _ _)
      | (with_reducible exact spec_miIs.mono _ _ _)
      | (with_reducible exact spec_miUpside.mono _ _)
      | (with_reducible exact LeO.refl _)
      | (with_reducible exact LeO.none _)
      | (with_reducible refine LeO.ite ?_ ?_)
      | (with_reducible refine LeO.bind ?_ (fun _ => ?_))
      | exact ih0 _ _ _ _ _
      | exact ih1 _ _ _ _ _ _ _
      | exact spec_miIs.mono _ _ _
      | exact spec_miUpside.mono _ _
      | exact LeO.none _
      | refine LeO.ite ?_ ?_
      | refine LeO.bind ?_ (fun _ => ?_)
theorem spec_miCan.mono : ∀ a0 a1 a2 k, LeO (spec_miCan.f k a0 a1 a2) (spec_miCan.f (k + 1) a0 a1 a2) := by
  intro a0 a1 a2 k
  obtain ⟨ih0, ih1⟩ := spec_miCan.mono_l k
  unfold spec_miCan.f
  repeat' first
      | (with_reducible exact ih0 _ _ _ _ _)
      | (with_reducible exact ih1 _ _ _ _ _ _ _)
      | (with_reducible exact spec_miIs.mono _ _ _)
      | (with_reducible exact spec_miUpside.mono _ _)
      | (with_reducible exact LeO.refl _)
      | (with_reducible exact LeO.none _)
      | (with_reducible refine LeO.ite ?_ ?_)
      | (with_reducible refine LeO.bind ?_ (fun _ => ?_))
      | exact ih0 _ _ _ _ _
      | exact ih1 _ _ _ _ _ _ _
      | exact spec_miIs.mono _ _ _
      | exact spec_miUpside.mono _ _
      | exact LeO.none _
      | refine LeO.ite ?_ ?_
      | refine LeO.bind ?_ (fun _ => ?_)
set_option maxHeartbeats 8000000 in
set_option maxRecDepth 100000 in
theorem spec_miCan.calls (k : Nat) (a0 : Int) (a1 : ByteArray) (a2 : ByteArray) (r : Bool) (w : World) (h : spec_miCan.f k a0 a1 a2 = some r) :
    Calls Tryd.prog 52 #[.int .i64 a0, .string a1, .string a2] w fun e w' => e = .returned (.bool r) ∧ Below w.heap.size w w' := by
  have HB := Aside0.mk (Below.refl w.heap.size w)
  have H : (if (a1.size : Int) = a0 then ((spec_miIs.f k a1 a2).bind fun t101 => (some t101)) else (if a2.toList = ([97] : List UInt8) then ((spec_miDigits.f a1).bind fun t102 => (some (decide (t102 ≤ 1)))) else (if a2.toList = ([100] : List UInt8) then ((spec_miDigits.f a1).bind fun t103 => (some (t103 == (a1.size : Int)))) else (if a2.toList = ([114] : List UInt8) then ((spec_miIs.f k a1 (⟨#[114]⟩ : ByteArray)).bind fun t104 => (if t104 = true then (if (a1.size : Int) = 0 then (some true) else (if 0 ≤ (wrap64 ((a1.size : Int) - 1)) then (if (wrap64 ((a1.size : Int) - 1)) < (a1.size : Int) then (some (decide (((57 - (bt a1 (wrap64 ((a1.size : Int) - 1)))) % 256) ≥ (wrap64 (a0 - (a1.size : Int)))))) else (none)) else (none))) else (some false))) else (if a2.toList = ([102] : List UInt8) then ((spec_miIs.f k a1 (⟨#[102]⟩ : ByteArray)).bind fun t105 => (if t105 = true then (if (a1.size : Int) = 0 then (some true) else (if 0 ≤ (wrap64 ((a1.size : Int) - 1)) then (if (wrap64 ((a1.size : Int) - 1)) < (a1.size : Int) then (some (decide ((((bt a1 (wrap64 ((a1.size : Int) - 1))) - 48) % 256) ≥ (wrap64 (a0 - (a1.size : Int)))))) else (none)) else (none))) else (some false))) else (spec_miCan.l0 k a0 a1 a2 (a1.size : Int) 0)))))) = some r := h
  clear h
  by_cases c4 : (a1.size : Int) = a0
  · rw [if_pos c4] at H
    have c4b0 : ((a1.size : Int) == a0) = true := beq_iff_eq.mpr c4
    have c4b1 : ((a1.size : Int) != a0) = false := bne_eq_false_iff_eq.mpr c4
    clear c4
    replace H := Option.bind_eq_some_iff.mp H
    obtain ⟨t101, A50, H⟩ := H
    replace H : (some t101) = some r := H
    have A5 := Aside0.mk A50
    clear A50
    obtain rfl := Option.some.inj H
    go_enter Tryd.func52, Tryd.ntmps52
    go_wp2_with (first | ((with_reducible refine gate_callee (f := 68) rfl ?_); refine goesL_ (some 19) rfl rfl Tryd.func68 (by kernel_rfl) rfl #[.string a1, .string a2] rfl (by (try simp only [List.map_toArray, List.map_cons, List.map_nil]); first | done | rfl | (simp only [List.length_drop, List.length_take]; rfl)) ?_; (with_reducible refine (spec_miIs.calls k a1 a2 t101 _ A5.out).mono ?_); rintro e w6 ⟨rfl, hb⟩; refine ⟨_, rfl, ?_⟩; have n0_ := Aside0.mk (below_step (by repeat (first | (with_reducible first | exact HB.out | apply below_alloc | apply pw_below_drewN | apply below_drew1) | exact HB.out)) hb); clear HB; have HB := n0_; clear n0_; (try clear hb); (try clear hb2); (try clear hk); (try clear hi)))
    go_ret
    exact ⟨by first | rfl | (simp [errW_none, errW_some] <;> rfl) | (simp [*, errW_none, errW_some] <;> rfl), by repeat (first | (with_reducible first | exact HB.out | apply below_alloc | apply pw_below_drewN | apply below_drew1) | exact HB.out)⟩
  · rw [if_neg c4] at H
    have c4b0 : ((a1.size : Int) == a0) = false := beq_eq_false_iff_ne.mpr c4
    have c4b1 : ((a1.size : Int) != a0) = true := bne_iff_ne.mpr c4
    by_cases c7 : a2.toList = ([97] : List UInt8)
    · rw [if_pos c7] at H
      have c7b0 : (a2.toList == ([97] : List UInt8)) = true := beq_iff_eq.mpr c7
      have c7b1 : (a2.toList != ([97] : List UInt8)) = false := bne_eq_false_iff_eq.mpr c7
      clear c7
      replace H := Option.bind_eq_some_iff.mp H
      obtain ⟨t102, A80, H⟩ := H
      replace H : (some (decide (t102 ≤ 1))) = some r := H
      have A8 := Aside0.mk A80
      clear A80
      obtain rfl := Option.some.inj H
      go_enter Tryd.func52, Tryd.ntmps52
      go_wp2_with (first | ((with_reducible refine gate_callee (f := 69) rfl ?_); refine goesL_ (some 26) rfl rfl Tryd.func69 (by kernel_rfl) rfl #[.string a1] rfl (by (try simp only [List.map_toArray, List.map_cons, List.map_nil]); first | done | rfl | (simp only [List.length_drop, List.length_take]; rfl)) ?_; (with_reducible refine (spec_miDigits.calls a1 t102 _ A8.out).mono ?_); rintro e w9 ⟨rfl, hb⟩; refine ⟨_, rfl, ?_⟩; have n0_ := Aside0.mk (below_step (by repeat (first | (with_reducible first | exact HB.out | apply below_alloc | apply pw_below_drewN | apply below_drew1) | exact HB.out)) hb); clear HB; have HB := n0_; clear n0_; (try clear hb); (try clear hb2); (try clear hk); (try clear hi)))
      go_ret
      exact ⟨by first | rfl | (simp [errW_none, errW_some] <;> rfl) | (simp [*, errW_none, errW_some] <;> rfl), by repeat (first | (with_reducible first | exact HB.out | apply below_alloc | apply pw_below_drewN | apply below_drew1) | exact HB.out)⟩
    · rw [if_neg c7] at H
      have c7b0 : (a2.toList == ([97] : List UInt8)) = false := beq_eq_false_iff_ne.mpr c7
      have c7b1 : (a2.toList != ([97] : List UInt8)) = true := bne_iff_ne.mpr c7
      by_cases c10 : a2.toList = ([100] : List UInt8)
      · rw [if_pos c10] at H
        have c10b0 : (a2.toList == ([100] : List UInt8)) = true := beq_iff_eq.mpr c10
        have c10b1 : (a2.toList != ([100] : List UInt8)) = false := bne_eq_false_iff_eq.mpr c10
        clear c10
        replace H := Option.bind_eq_some_iff.mp H
        obtain ⟨t103, A110, H⟩ := H
        replace H : (some (t103 == (a1.size : Int))) = some r := H
        have A11 := Aside0.mk A110
        clear A110
        obtain rfl := Option.some.inj H
        go_enter Tryd.func52, Tryd.ntmps52
        go_wp2_with (first | ((with_reducible refine gate_callee (f := 69) rfl ?_); refine goesL_ (some 31) rfl rfl Tryd.func69 (by kernel_rfl) rfl #[.string a1] rfl (by (try simp only [List.map_toArray, List.map_cons, List.map_nil]); first | done | rfl | (simp only [List.length_drop, List.length_take]; rfl)) ?_; (with_reducible refine (spec_miDigits.calls a1 t103 _ A11.out).mono ?_); rintro e w12 ⟨rfl, hb⟩; refine ⟨_, rfl, ?_⟩; have n0_ := Aside0.mk (below_step (by repeat (first | (with_reducible first | exact HB.out | apply below_alloc | apply pw_below_drewN | apply below_drew1) | exact HB.out)) hb); clear HB; have HB := n0_; clear n0_; (try clear hb); (try clear hb2); (try clear hk); (try clear hi)))
        go_ret
        exact ⟨by first | rfl | (simp [errW_none, errW_some] <;> rfl) | (simp [*, errW_none, errW_some] <;> rfl), by repeat (first | (with_reducible first | exact HB.out | apply below_alloc | apply pw_below_drewN | apply below_drew1) | exact HB.out)⟩
      · rw [if_neg c10] at H
        have c10b0 : (a2.toList == ([100] : List UInt8)) = false := beq_eq_false_iff_ne.mpr c10
        have c10b1 : (a2.toList != ([100] : List UInt8)) = true := bne_iff_ne.mpr c10
        by_cases c13 : a2.toList = ([114] : List UInt8)
        · rw [if_pos c13] at H
          have c13b0 : (a2.toList == ([114] : List UInt8)) = true := beq_iff_eq.mpr c13
          have c13b1 : (a2.toList != ([114] : List UInt8)) = false := bne_eq_false_iff_eq.mpr c13
          clear c13
          replace H := Option.bind_eq_some_iff.mp H
          obtain ⟨t104, A140, H⟩ := H
          replace H : (if t104 = true then (if (a1.size : Int) = 0 then (some true) else (if 0 ≤ (wrap64 ((a1.size : Int) - 1)) then (if (wrap64 ((a1.size : Int) - 1)) < (a1.size : Int) then (some (decide (((57 - (bt a1 (wrap64 ((a1.size : Int) - 1)))) % 256) ≥ (wrap64 (a0 - (a1.size : Int)))))) else (none)) else (none))) else (some false)) = some r := H
          have A14 := Aside0.mk A140
          clear A140
          by_cases c15 : t104 = true
          · subst c15
            have H1 : (if (a1.size : Int) = 0 then (some true) else (if 0 ≤ (wrap64 ((a1.size : Int) - 1)) then (if (wrap64 ((a1.size : Int) - 1)) < (a1.size : Int) then (some (decide (((57 - (bt a1 (wrap64 ((a1.size : Int) - 1)))) % 256) ≥ (wrap64 (a0 - (a1.size : Int)))))) else (none)) else (none))) = some r := by rw [if_pos rfl] at H; exact H
            clear H
            have H := H1
            clear H1
            by_cases c16 : (a1.size : Int) = 0
            · rw [if_pos c16] at H
              have c16b0 : ((a1.size : Int) == 0) = true := beq_iff_eq.mpr c16
              have c16b1 : ((a1.size : Int) != 0) = false := bne_eq_false_iff_eq.mpr c16
              clear c16
              obtain rfl := Option.some.inj H
              go_enter Tryd.func52, Tryd.ntmps52
              go_wp2_with (first | ((with_reducible refine gate_callee (f := 68) rfl ?_); refine goesL_ (some 37) rfl rfl Tryd.func68 (by kernel_rfl) rfl #[.string a1, .string (⟨#[114]⟩ : ByteArray)] rfl (by (try simp only [List.map_toArray, List.map_cons, List.map_nil]); first | done | rfl | (simp only [List.length_drop, List.length_take]; rfl)) ?_; (with_reducible refine (spec_miIs.calls k a1 (⟨#[114]⟩ : ByteArray) true _ A14.out).mono ?_); rintro e w17 ⟨rfl, hb⟩; refine ⟨_, rfl, ?_⟩; have n0_ := Aside0.mk (below_step (by repeat (first | (with_reducible first | exact HB.out | apply below_alloc | apply pw_below_drewN | apply below_drew1) | exact HB.out)) hb); clear HB; have HB := n0_; clear n0_; (try clear hb); (try clear hb2); (try clear hk); (try clear hi)))
              go_ret
              exact ⟨by first | rfl | (simp [errW_none, errW_some] <;> rfl) | (simp [*, errW_none, errW_some] <;> rfl), by repeat (first | (with_reducible first | exact HB.out | apply below_alloc | apply pw_below_drewN | apply below_drew1) | exact HB.out)⟩
            · rw [if_neg c16] at H
              have c16b0 : ((a1.size : Int) == 0) = false := beq_eq_false_iff_ne.mpr c16
              have c16b1 : ((a1.size : Int) != 0) = true := bne_iff_ne.mpr c16
              obtain ⟨ji18, hji18⟩ : ∃ j_ : Int, (wrap64 ((a1.size : Int) - 1)) = j_ := ⟨_, rfl⟩
              replace H : (if 0 ≤ (ji18) then (if (ji18) < (a1.size : Int) then (some (decide (((57 - (bt a1 (ji18))) % 256) ≥ (wrap64 (a0 - (a1.size : Int)))))) else (none)) else (none)) = some r := by first | (rw [hji18] at H; exact H) | (simp only [hji18] at H ⊢; exact H)
              (try rw [hji18] at A14)
              have hji18w : (IntKind.i64.wrap ((a1.size : Int) - 1)) = ji18 := (i64_w _).trans hji18
              by_cases c19 : 0 ≤ (ji18)
              · rw [if_pos c19] at H
                have c19b0 : decide (0 ≤ (ji18)) = true := decide_eq_true c19
                clear c19
                by_cases c20 : (ji18) < (a1.size : Int)
                · rw [if_pos c20] at H
                  have c20b0 : decide ((ji18) < (a1.size : Int)) = true := decide_eq_true c20
                  clear c20
                  obtain rfl := Option.some.inj H
                  go_enter Tryd.func52, Tryd.ntmps52
                  go_wp2_with (first | ((with_reducible refine gate_callee (f := 68) rfl ?_); refine goesL_ (some 37) rfl rfl Tryd.func68 (by kernel_rfl) rfl #[.string a1, .string (⟨#[114]⟩ : ByteArray)] rfl (by (try simp only [List.map_toArray, List.map_cons, List.map_nil]); first | done | rfl | (simp only [List.length_drop, List.length_take]; rfl)) ?_; (with_reducible refine (spec_miIs.calls k a1 (⟨#[114]⟩ : ByteArray) true _ A14.out).mono ?_); rintro e w22 ⟨rfl, hb⟩; refine ⟨_, rfl, ?_⟩; have n0_ := Aside0.mk (below_step (by repeat (first | (with_reducible first | exact HB.out | apply below_alloc | apply pw_below_drewN | apply below_drew1) | exact HB.out)) hb); clear HB; have HB := n0_; clear n0_; (try clear hb); (try clear hb2); (try clear hk); (try clear hi); have p21 : 0 ≤ ((ji18) : Int) := of_decide_eq_true (by first | (with_reducible assumption) | assumption); have q21 : (ji18) < (a1.size : Int) := of_decide_eq_true (by first | (with_reducible assumption) | assumption); have hx21 := bt_at a1 (ji18); replace p21 := eq_true p21; replace q21 := eq_true q21))
                  go_ret
                  exact ⟨by first | rfl | (simp [errW_none, errW_some] <;> rfl) | (simp only [← hji18]; first | rfl | (simp [errW_none, errW_some] <;> rfl)) | (simp [*, errW_none, errW_some] <;> rfl), by repeat (first | (with_reducible first | exact HB.out | apply below_alloc | apply pw_below_drewN | apply below_drew1) | exact HB.out)⟩
                · rw [if_neg c20] at H
                  exact absurd H (by simp)
              · rw [if_neg c19] at H
                exact absurd H (by simp)
          · replace c15 := Bool.eq_false_iff.mpr c15
            subst c15
            have H1 : (some false) = some r := by rw [if_neg (show ¬ (false = true) by decide)] at H; exact H
            clear H
            have H := H1
            clear H1
            obtain rfl := Option.some.inj H
            go_enter Tryd.func52, Tryd.ntmps52
            go_wp2_with (first | ((with_reducible refine gate_callee (f := 68) rfl ?_); refine goesL_ (some 37) rfl rfl Tryd.func68 (by kernel_rfl) rfl #[.string a1, .string (⟨#[114]⟩ : ByteArray)] rfl (by (try simp only [List.map_toArray, List.map_cons, List.map_nil]); first | done | rfl | (simp only [List.length_drop, List.length_take]; rfl)) ?_; (with_reducible refine (spec_miIs.calls k a1 (⟨#[114]⟩ : ByteArray) false _ A14.out).mono ?_); rintro e w23 ⟨rfl, hb⟩; refine ⟨_, rfl, ?_⟩; have n0_ := Aside0.mk (below_step (by repeat (first | (with_reducible first | exact HB.out | apply below_alloc | apply pw_below_drewN | apply below_drew1) | exact HB.out)) hb); clear HB; have HB := n0_; clear n0_; (try clear hb); (try clear hb2); (try clear hk); (try clear hi)))
            go_ret
            exact ⟨by first | rfl | (simp [errW_none, errW_some] <;> rfl) | (simp [*, errW_none, errW_some] <;> rfl), by repeat (first | (with_reducible first | exact HB.out | apply below_alloc | apply pw_below_drewN | apply below_drew1) | exact HB.out)⟩
        · rw [if_neg c13] at H
          have c13b0 : (a2.toList == ([114] : List UInt8)) = false := beq_eq_false_iff_ne.mpr c13
          have c13b1 : (a2.toList != ([114] : List UInt8)) = true := bne_iff_ne.mpr c13
          by_cases c24 : a2.toList = ([102] : List UInt8)
          · rw [if_pos c24] at H
            have c24b0 : (a2.toList == ([102] : List UInt8)) = true := beq_iff_eq.mpr c24
            have c24b1 : (a2.toList != ([102] : List UInt8)) = false := bne_eq_false_iff_eq.mpr c24
            clear c24
            replace H := Option.bind_eq_some_iff.mp H
            obtain ⟨t105, A250, H⟩ := H
            replace H : (if t105 = true then (if (a1.size : Int) = 0 then (some true) else (if 0 ≤ (wrap64 ((a1.size : Int) - 1)) then (if (wrap64 ((a1.size : Int) - 1)) < (a1.size : Int) then (some (decide ((((bt a1 (wrap64 ((a1.size : Int) - 1))) - 48) % 256) ≥ (wrap64 (a0 - (a1.size : Int)))))) else (none)) else (none))) else (some false)) = some r := H
            have A25 := Aside0.mk A250
            clear A250
            by_cases c26 : t105 = true
            · subst c26
              have H1 : (if (a1.size : Int) = 0 then (some true) else (if 0 ≤ (wrap64 ((a1.size : Int) - 1)) then (if (wrap64 ((a1.size : Int) - 1)) < (a1.size : Int) then (some (decide ((((bt a1 (wrap64 ((a1.size : Int) - 1))) - 48) % 256) ≥ (wrap64 (a0 - (a1.size : Int)))))) else (none)) else (none))) = some r := by rw [if_pos rfl] at H; exact H
              clear H
              have H := H1
              clear H1
              by_cases c27 : (a1.size : Int) = 0
              · rw [if_pos c27] at H
                have c27b0 : ((a1.size : Int) == 0) = true := beq_iff_eq.mpr c27
                have c27b1 : ((a1.size : Int) != 0) = false := bne_eq_false_iff_eq.mpr c27
                clear c27
                obtain rfl := Option.some.inj H
                go_enter Tryd.func52, Tryd.ntmps52
                go_wp2_with (first | ((with_reducible refine gate_callee (f := 68) rfl ?_); refine goesL_ (some 57) rfl rfl Tryd.func68 (by kernel_rfl) rfl #[.string a1, .string (⟨#[102]⟩ : ByteArray)] rfl (by (try simp only [List.map_toArray, List.map_cons, List.map_nil]); first | done | rfl | (simp only [List.length_drop, List.length_take]; rfl)) ?_; (with_reducible refine (spec_miIs.calls k a1 (⟨#[102]⟩ : ByteArray) true _ A25.out).mono ?_); rintro e w28 ⟨rfl, hb⟩; refine ⟨_, rfl, ?_⟩; have n0_ := Aside0.mk (below_step (by repeat (first | (with_reducible first | exact HB.out | apply below_alloc | apply pw_below_drewN | apply below_drew1) | exact HB.out)) hb); clear HB; have HB := n0_; clear n0_; (try clear hb); (try clear hb2); (try clear hk); (try clear hi)))
                go_ret
                exact ⟨by first | rfl | (simp [errW_none, errW_some] <;> rfl) | (simp [*, errW_none, errW_some] <;> rfl), by repeat (first | (with_reducible first | exact HB.out | apply below_alloc | apply pw_below_drewN | apply below_drew1) | exact HB.out)⟩
              · rw [if_neg c27] at H
                have c27b0 : ((a1.size : Int) == 0) = false := beq_eq_false_iff_ne.mpr c27
                have c27b1 : ((a1.size : Int) != 0) = true := bne_iff_ne.mpr c27
                obtain ⟨ji29, hji29⟩ : ∃ j_ : Int, (wrap64 ((a1.size : Int) - 1)) = j_ := ⟨_, rfl⟩
                replace H : (if 0 ≤ (ji29) then (if (ji29) < (a1.size : Int) then (some (decide ((((bt a1 (ji29)) - 48) % 256) ≥ (wrap64 (a0 - (a1.size : Int)))))) else (none)) else (none)) = some r := by first | (rw [hji29] at H; exact H) | (simp only [hji29] at H ⊢; exact H)
                (try rw [hji29] at A25)
                have hji29w : (IntKind.i64.wrap ((a1.size : Int) - 1)) = ji29 := (i64_w _).trans hji29
                by_cases c30 : 0 ≤ (ji29)
                · rw [if_pos c30] at H
                  have c30b0 : decide (0 ≤ (ji29)) = true := decide_eq_true c30
                  clear c30
                  by_cases c31 : (ji29) < (a1.size : Int)
                  · rw [if_pos c31] at H
                    have c31b0 : decide ((ji29) < (a1.size : Int)) = true := decide_eq_true c31
                    clear c31
                    obtain rfl := Option.some.inj H
                    go_enter Tryd.func52, Tryd.ntmps52
                    go_wp2_with (first | ((with_reducible refine gate_callee (f := 68) rfl ?_); refine goesL_ (some 57) rfl rfl Tryd.func68 (by kernel_rfl) rfl #[.string a1, .string (⟨#[102]⟩ : ByteArray)] rfl (by (try simp only [List.map_toArray, List.map_cons, List.map_nil]); first | done | rfl | (simp only [List.length_drop, List.length_take]; rfl)) ?_; (with_reducible refine (spec_miIs.calls k a1 (⟨#[102]⟩ : ByteArray) true _ A25.out).mono ?_); rintro e w33 ⟨rfl, hb⟩; refine ⟨_, rfl, ?_⟩; have n0_ := Aside0.mk (below_step (by repeat (first | (with_reducible first | exact HB.out | apply below_alloc | apply pw_below_drewN | apply below_drew1) | exact HB.out)) hb); clear HB; have HB := n0_; clear n0_; (try clear hb); (try clear hb2); (try clear hk); (try clear hi); have p32 : 0 ≤ ((ji29) : Int) := of_decide_eq_true (by first | (with_reducible assumption) | assumption); have q32 : (ji29) < (a1.size : Int) := of_decide_eq_true (by first | (with_reducible assumption) | assumption); have hx32 := bt_at a1 (ji29); replace p32 := eq_true p32; replace q32 := eq_true q32))
                    go_ret
                    exact ⟨by first | rfl | (simp [errW_none, errW_some] <;> rfl) | (simp only [← hji29]; first | rfl | (simp [errW_none, errW_some] <;> rfl)) | (simp [*, errW_none, errW_some] <;> rfl), by repeat (first | (with_reducible first | exact HB.out | apply below_alloc | apply pw_below_drewN | apply below_drew1) | exact HB.out)⟩
                  · rw [if_neg c31] at H
                    exact absurd H (by simp)
                · rw [if_neg c30] at H
                  exact absurd H (by simp)
            · replace c26 := Bool.eq_false_iff.mpr c26
              subst c26
              have H1 : (some false) = some r := by rw [if_neg (show ¬ (false = true) by decide)] at H; exact H
              clear H
              have H := H1
              clear H1
              obtain rfl := Option.some.inj H
              go_enter Tryd.func52, Tryd.ntmps52
              go_wp2_with (first | ((with_reducible refine gate_callee (f := 68) rfl ?_); refine goesL_ (some 57) rfl rfl Tryd.func68 (by kernel_rfl) rfl #[.string a1, .string (⟨#[102]⟩ : ByteArray)] rfl (by (try simp only [List.map_toArray, List.map_cons, List.map_nil]); first | done | rfl | (simp only [List.length_drop, List.length_take]; rfl)) ?_; (with_reducible refine (spec_miIs.calls k a1 (⟨#[102]⟩ : ByteArray) false _ A25.out).mono ?_); rintro e w34 ⟨rfl, hb⟩; refine ⟨_, rfl, ?_⟩; have n0_ := Aside0.mk (below_step (by repeat (first | (with_reducible first | exact HB.out | apply below_alloc | apply pw_below_drewN | apply below_drew1) | exact HB.out)) hb); clear HB; have HB := n0_; clear n0_; (try clear hb); (try clear hb2); (try clear hk); (try clear hi)))
              go_ret
              exact ⟨by first | rfl | (simp [errW_none, errW_some] <;> rfl) | (simp [*, errW_none, errW_some] <;> rfl), by repeat (first | (with_reducible first | exact HB.out | apply below_alloc | apply pw_below_drewN | apply below_drew1) | exact HB.out)⟩
          · rw [if_neg c24] at H
            have c24b0 : (a2.toList == ([102] : List UInt8)) = false := beq_eq_false_iff_ne.mpr c24
            have c24b1 : (a2.toList != ([102] : List UInt8)) = true := bne_iff_ne.mpr c24
            have H' := Aside0.mk H
            clear H
            go_enter Tryd.func52, Tryd.ntmps52
            go_wp2
            go_loopg [8] k (fun kq v8 w' => ∃ (x8_1 : Int), v8 = .int .i64 x8_1 ∧ Aside0 (spec_miCan.l0 kq a0 a1 a2 (a1.size : Int) x8_1 = some r) ∧ Aside0 (kq ≤ k) ∧ Aside0 (Below w.heap.size w w'))
            case atStart => exact ⟨(0), (by first | rfl | (simp; done) | (simp [*]; done)), H', ⟨Nat.le_refl _⟩, ⟨by repeat (first | (with_reducible first | exact HB.out | apply below_alloc | apply pw_below_drewN | apply below_drew1) | exact HB.out)⟩⟩
            case round =>
              clear H'
              try clear c1
              try clear c2
              try clear p2
              try clear q2
              try clear hx2
              try clear c3
              try clear p3
              try clear q3
              try clear hx3
              try clear c4
              try clear c4b0
              try clear c4b1
              try clear c5
              try clear c6
              try clear p6
              try clear c7
              try clear c7b0
              try clear c7b1
              try clear c10
              try clear c10b0
              try clear c10b1
              try clear c13
              try clear c13b0
              try clear c13b1
              try clear c15
              try clear c16
              try clear c16b0
              try clear c16b1
              try clear c19
              try clear c19b0
              try clear c20
              try clear c20b0
              try clear p21
              try clear q21
              try clear hx21
              try clear c24
              try clear c24b0
              try clear c24b1
              try clear c26
              try clear c27
              try clear c27b0
              try clear c27b1
              try clear c30
              try clear c30b0
              try clear c31
              try clear c31b0
              try clear p32
              try clear q32
              try clear hx32
              try clear p21
              try clear p32
              try clear q21
              try clear q32
              obtain ⟨x8_1, rfl, HA, HK1, HB⟩ := hrel
              cases gk with
              | zero => exact absurd HA.out (by simp [spec_miCan.l0])
              | succ k1 =>
                have H := HA.out
                clear HA
                simp only [spec_miCan.l0] at H
                by_cases c35 : x8_1 < (a1.size : Int)
                · rw [if_pos c35] at H
                  have c35b0 : decide (x8_1 < (a1.size : Int)) = true := decide_eq_true c35
                  clear c35
                  by_cases c36 : 0 ≤ x8_1
                  · rw [if_pos c36] at H
                    have c36b0 := eq_true c36
                    have c36b1 : decide (0 ≤ x8_1) = true := decide_eq_true c36
                    clear c36
                    by_cases c37 : x8_1 ≤ (wrap64 (x8_1 + 1))
                    · rw [if_pos c37] at H
                      have c37b0 := eq_true c37
                      have c37b1 : decide (x8_1 ≤ (wrap64 (x8_1 + 1))) = true := decide_eq_true c37
                      by_cases c38 : (wrap64 (x8_1 + 1)) ≤ (a1.size : Int)
                      · rw [if_pos c38] at H
                        have c38b0 := eq_true c38
                        have c38b1 : decide ((wrap64 (x8_1 + 1)) ≤ (a1.size : Int)) = true := decide_eq_true c38
                        by_cases c39 : a2.toList = ([117] : List UInt8)
                        · rw [if_pos c39] at H
                          have c39b0 : (a2.toList == ([117] : List UInt8)) = true := beq_iff_eq.mpr c39
                          have c39b1 : (a2.toList != ([117] : List UInt8)) = false := bne_eq_false_iff_eq.mpr c39
                          clear c39
                          replace H := Option.bind_eq_some_iff.mp H
                          obtain ⟨⟨t106, t107⟩, A400, H⟩ := H
                          replace H : (if t107 = true then (if (wrap64 ((wrap64 (2 * x8_1)) + 1)) = a0 then (spec_miCan.j1 k1 a0 a1 a2 (a1.size : Int) x8_1 t106 (t106.toList != (a1.extract (x8_1 : Int).toNat ((wrap64 (x8_1 + 1)) : Int).toNat).toList)) else (spec_miCan.j1 k1 a0 a1 a2 (a1.size : Int) x8_1 t106 false)) else (spec_miCan.j1 k1 a0 a1 a2 (a1.size : Int) x8_1 t106 true)) = some r := H
                          have A40 := Aside0.mk A400
                          clear A400
                          have HC41 := Aside0.mk H
                          clear H
                          go_upto_region 19 with (first | ((with_reducible refine gate_callee (f := 70) rfl ?_); refine goesL_ (some 88) rfl rfl Tryd.func70 (by kernel_rfl) rfl #[.string (a1.extract (x8_1 : Int).toNat ((wrap64 (x8_1 + 1)) : Int).toNat)] rfl (by (try simp only [List.map_toArray, List.map_cons, List.map_nil]); first | done | rfl | (simp only [List.length_drop, List.length_take]; rfl)) ?_; (with_reducible refine (spec_miUpside.calls k1 (a1.extract (x8_1 : Int).toNat ((wrap64 (x8_1 + 1)) : Int).toNat) t106 t107 _ A40.out).mono ?_); rintro e w' ⟨rfl, ⟨nd, rfl⟩⟩; refine ⟨_, rfl, ?_⟩))
                          (try simp only [Act.put, List.setIfInBounds_toArray, List.set_cons_zero, List.set_cons_succ])
                          go_cut [104] (fun v104 wc => ∃ (kq : Nat) (x104_40 : Bool), v104 = .bool x104_40 ∧ Aside0 (spec_miCan.j1 kq a0 a1 a2 (a1.size : Int) x8_1 t106 x104_40 = some r) ∧ Aside0 (kq ≤ k1) ∧ Aside0 (Below w.heap.size w wc))
                          case first =>
                            have H := HC41.out
                            clear HC41
                            by_cases c42 : t107 = true
                            · subst c42
                              have H1 : (if (wrap64 ((wrap64 (2 * x8_1)) + 1)) = a0 then (spec_miCan.j1 k1 a0 a1 a2 (a1.size : Int) x8_1 t106 (t106.toList != (a1.extract (x8_1 : Int).toNat ((wrap64 (x8_1 + 1)) : Int).toNat).toList)) else (spec_miCan.j1 k1 a0 a1 a2 (a1.size : Int) x8_1 t106 false)) = some r := by rw [if_pos rfl] at H; exact H
                              clear H
                              have H := H1
                              clear H1
                              by_cases c43 : (wrap64 ((wrap64 (2 * x8_1)) + 1)) = a0
                              · rw [if_pos c43] at H
                                have c43b0 : ((wrap64 ((wrap64 (2 * x8_1)) + 1)) == a0) = true := beq_iff_eq.mpr c43
                                have c43b1 : ((wrap64 ((wrap64 (2 * x8_1)) + 1)) != a0) = false := bne_eq_false_iff_eq.mpr c43
                                clear c43
                                (first | rw [c43b0] | (simp only [i64_w, i32_w]; rw [c43b0]) | skip)
                                have H' := Aside0.mk H
                                clear H
                                go_wp2
                                go_meet
                                case rel => exact ⟨_, ((t106.toList != (a1.extract (x8_1 : Int).toNat ((wrap64 (x8_1 + 1)) : Int).toNat).toList)), (by first | rfl | (simp; done) | (simp [*]; done)), H', ⟨by have := HK1.out; first | omega | exact Nat.le_refl _⟩, ⟨by repeat (first | (with_reducible first | exact HB.out | apply below_alloc | apply pw_below_drewN | apply below_drew1) | exact HB.out)⟩⟩
                              · rw [if_neg c43] at H
                                have c43b0 : ((wrap64 ((wrap64 (2 * x8_1)) + 1)) == a0) = false := beq_eq_false_iff_ne.mpr c43
                                have c43b1 : ((wrap64 ((wrap64 (2 * x8_1)) + 1)) != a0) = true := bne_iff_ne.mpr c43
                                (first | rw [c43b0] | (simp only [i64_w, i32_w]; rw [c43b0]) | skip)
                                have H' := Aside0.mk H
                                clear H
                                go_wp2
                                go_meet
                                case rel => exact ⟨_, (false), (by first | rfl | (simp; done) | (simp [*]; done)), H', ⟨by have := HK1.out; first | omega | exact Nat.le_refl _⟩, ⟨by repeat (first | (with_reducible first | exact HB.out | apply below_alloc | apply pw_below_drewN | apply below_drew1) | exact HB.out)⟩⟩
                            · replace c42 := Bool.eq_false_iff.mpr c42
                              subst c42
                              have H1 : (spec_miCan.j1 k1 a0 a1 a2 (a1.size : Int) x8_1 t106 true) = some r := by rw [if_neg (show ¬ (false = true) by decide)] at H; exact H
                              clear H
                              have H := H1
                              clear H1
                              have H' := Aside0.mk H
                              clear H
                              go_wp2
                              go_meet
                              case rel => exact ⟨_, (true), (by first | rfl | (simp; done) | (simp [*]; done)), H', ⟨by have := HK1.out; first | omega | exact Nat.le_refl _⟩, ⟨by repeat (first | (with_reducible first | exact HB.out | apply below_alloc | apply pw_below_drewN | apply below_drew1) | exact HB.out)⟩⟩
                          case rest =>
                            clear HC41
                            try clear c1
                            try clear c2
                            try clear p2
                            try clear q2
                            try clear hx2
                            try clear c3
                            try clear p3
                            try clear q3
                            try clear hx3
                            try clear c4
                            try clear c4b0
                            try clear c4b1
                            try clear c5
                            try clear c6
                            try clear p6
                            try clear c7
                            try clear c7b0
                            try clear c7b1
                            try clear c10
                            try clear c10b0
                            try clear c10b1
                            try clear c13
                            try clear c13b0
                            try clear c13b1
                            try clear c15
                            try clear c16
                            try clear c16b0
                            try clear c16b1
                            try clear c19
                            try clear c19b0
                            try clear c20
                            try clear c20b0
                            try clear p21
                            try clear q21
                            try clear hx21
                            try clear c24
                            try clear c24b0
                            try clear c24b1
                            try clear c26
                            try clear c27
                            try clear c27b0
                            try clear c27b1
                            try clear c30
                            try clear c30b0
                            try clear c31
                            try clear c31b0
                            try clear p32
                            try clear q32
                            try clear hx32
                            try clear c35
                            try clear c35b0
                            try clear c36
                            try clear c36b0
                            try clear c36b1
                            try clear c37
                            try clear c37b0
                            try clear c37b1
                            try clear c38
                            try clear c38b0
                            try clear c38b1
                            try clear c39
                            try clear c39b0
                            try clear c39b1
                            try clear c42
                            try clear c43
                            try clear c43b0
                            try clear c43b1
                            try clear p2
                            try clear p21
                            try clear p3
                            try clear p32
                            try clear p6
                            try clear q2
                            try clear q21
                            try clear q3
                            try clear q32
                            obtain ⟨kq, x104_40, rfl, HA, HJ40, HB⟩ := hcut
                            cases kq with
                            | zero => exact absurd HA.out (by simp [spec_miCan.j1])
                            | succ kj40 =>
                              have H := HA.out
                              clear HA
                              simp only [spec_miCan.j1] at H
                              by_cases c44 : x104_40 = true
                              · subst c44
                                have H1 : (some false) = some r := by rw [if_pos rfl] at H; exact H
                                clear H
                                have H := H1
                                clear H1
                                obtain rfl := Option.some.inj H
                                go_wp2
                                go_ret
                                exact ⟨by first | rfl | (simp [errW_none, errW_some] <;> rfl) | (simp [*, errW_none, errW_some] <;> rfl), by repeat (first | (with_reducible first | exact HB.out | apply below_alloc | apply pw_below_drewN | apply below_drew1) | exact HB.out)⟩
                              · replace c44 := Bool.eq_false_iff.mpr c44
                                subst c44
                                have H1 : (if (wrap64 ((wrap64 (a0 - 1)) - x8_1)) < (a1.size : Int) then (if 0 ≤ (wrap64 ((wrap64 (a0 - 1)) - x8_1)) then (if (wrap64 ((wrap64 (a0 - 1)) - x8_1)) ≤ (wrap64 ((wrap64 ((wrap64 (a0 - 1)) - x8_1)) + 1)) then (if (wrap64 ((wrap64 ((wrap64 (a0 - 1)) - x8_1)) + 1)) ≤ (a1.size : Int) then (if (a1.extract ((wrap64 ((wrap64 (a0 - 1)) - x8_1)) : Int).toNat ((wrap64 ((wrap64 ((wrap64 (a0 - 1)) - x8_1)) + 1)) : Int).toNat).toList = t106.toList then (spec_miCan.l0 kj40 a0 a1 a2 (a1.size : Int) (wrap64 (x8_1 + 1))) else (some false)) else (none)) else (none)) else (none)) else (spec_miCan.l0 kj40 a0 a1 a2 (a1.size : Int) (wrap64 (x8_1 + 1)))) = some r := by rw [if_neg (show ¬ (false = true) by decide)] at H; exact H
                                clear H
                                have H := H1
                                clear H1
                                by_cases c45 : (wrap64 ((wrap64 (a0 - 1)) - x8_1)) < (a1.size : Int)
                                · rw [if_pos c45] at H
                                  have c45b0 : decide ((wrap64 ((wrap64 (a0 - 1)) - x8_1)) < (a1.size : Int)) = true := decide_eq_true c45
                                  clear c45
                                  obtain ⟨ji46, hji46⟩ : ∃ j_ : Int, (wrap64 ((wrap64 (a0 - 1)) - x8_1)) = j_ := ⟨_, rfl⟩
                                  replace H : (if 0 ≤ (ji46) then (if (ji46) ≤ (wrap64 ((ji46) + 1)) then (if (wrap64 ((ji46) + 1)) ≤ (a1.size : Int) then (if (a1.extract ((ji46) : Int).toNat ((wrap64 ((ji46) + 1)) : Int).toNat).toList = t106.toList then (spec_miCan.l0 kj40 a0 a1 a2 (a1.size : Int) (wrap64 (x8_1 + 1))) else (some false)) else (none)) else (none)) else (none)) = some r := by first | (rw [hji46] at H; exact H) | (simp only [hji46] at H ⊢; exact H)
                                  (try rw [hji46] at c45b0)
                                  have hji46w : (IntKind.i64.wrap ((wrap64 (a0 - 1)) - x8_1)) = ji46 := (i64_w _).trans hji46
                                  by_cases c47 : 0 ≤ (ji46)
                                  · rw [if_pos c47] at H
                                    have c47b0 := eq_true c47
                                    have c47b1 : decide (0 ≤ (ji46)) = true := decide_eq_true c47
                                    clear c47
                                    by_cases c48 : (ji46) ≤ (wrap64 ((ji46) + 1))
                                    · rw [if_pos c48] at H
                                      have c48b0 := eq_true c48
                                      have c48b1 : decide ((ji46) ≤ (wrap64 ((ji46) + 1))) = true := decide_eq_true c48
                                      by_cases c49 : (wrap64 ((ji46) + 1)) ≤ (a1.size : Int)
                                      · rw [if_pos c49] at H
                                        have c49b0 := eq_true c49
                                        have c49b1 : decide ((wrap64 ((ji46) + 1)) ≤ (a1.size : Int)) = true := decide_eq_true c49
                                        by_cases c50 : (a1.extract ((ji46) : Int).toNat ((wrap64 ((ji46) + 1)) : Int).toNat).toList = t106.toList
                                        · rw [if_pos c50] at H
                                          have c50b0 : ((a1.extract ((ji46) : Int).toNat ((wrap64 ((ji46) + 1)) : Int).toNat).toList == t106.toList) = true := beq_iff_eq.mpr c50
                                          have c50b1 : ((a1.extract ((ji46) : Int).toNat ((wrap64 ((ji46) + 1)) : Int).toNat).toList != t106.toList) = false := bne_eq_false_iff_eq.mpr c50
                                          clear c50
                                          have H' := Aside0.mk H
                                          clear H
                                          go_wp2
                                          go_roundg kj40
                                          case measure => have := HK1.out; have := HJ40.out; omega
                                          case rel => exact ⟨(wrap64 (x8_1 + 1)), (by first | rfl | (simp; done) | (simp [*]; done)), H', ⟨by have := HK1.out; have := HJ40.out; omega⟩, ⟨by repeat (first | (with_reducible first | exact HB.out | apply below_alloc | apply pw_below_drewN | apply below_drew1) | exact HB.out)⟩⟩
                                        · rw [if_neg c50] at H
                                          have c50b0 : ((a1.extract ((ji46) : Int).toNat ((wrap64 ((ji46) + 1)) : Int).toNat).toList == t106.toList) = false := beq_eq_false_iff_ne.mpr c50
                                          have c50b1 : ((a1.extract ((ji46) : Int).toNat ((wrap64 ((ji46) + 1)) : Int).toNat).toList != t106.toList) = true := bne_iff_ne.mpr c50
                                          obtain rfl := Option.some.inj H
                                          go_wp2
                                          go_ret
                                          exact ⟨by first | rfl | (simp [errW_none, errW_some] <;> rfl) | (simp only [← hji46]; first | rfl | (simp [errW_none, errW_some] <;> rfl)) | (simp [*, errW_none, errW_some] <;> rfl), by repeat (first | (with_reducible first | exact HB.out | apply below_alloc | apply pw_below_drewN | apply below_drew1) | exact HB.out)⟩
                                      · rw [if_neg c49] at H
                                        exact absurd H (by simp)
                                    · rw [if_neg c48] at H
                                      exact absurd H (by simp)
                                  · rw [if_neg c47] at H
                                    exact absurd H (by simp)
                                · rw [if_neg c45] at H
                                  have c45b0 : decide ((wrap64 ((wrap64 (a0 - 1)) - x8_1)) < (a1.size : Int)) = false := decide_eq_false c45
                                  clear c45
                                  have H' := Aside0.mk H
                                  clear H
                                  go_wp2
                                  go_roundg kj40
                                  case measure => have := HK1.out; have := HJ40.out; omega
                                  case rel => exact ⟨(wrap64 (x8_1 + 1)), (by first | rfl | (simp; done) | (simp [*]; done)), H', ⟨by have := HK1.out; have := HJ40.out; omega⟩, ⟨by repeat (first | (with_reducible first | exact HB.out | apply below_alloc | apply pw_below_drewN | apply below_drew1) | exact HB.out)⟩⟩
                        · rw [if_neg c39] at H
                          have c39b0 : (a2.toList == ([117] : List UInt8)) = false := beq_eq_false_iff_ne.mpr c39
                          have c39b1 : (a2.toList != ([117] : List UInt8)) = true := bne_iff_ne.mpr c39
                          by_cases c51 : (wrap64 ((wrap64 (a0 - 1)) - x8_1)) < (a1.size : Int)
                          · rw [if_pos c51] at H
                            have c51b0 : decide ((wrap64 ((wrap64 (a0 - 1)) - x8_1)) < (a1.size : Int)) = true := decide_eq_true c51
                            clear c51
                            obtain ⟨ji52, hji52⟩ : ∃ j_ : Int, (wrap64 ((wrap64 (a0 - 1)) - x8_1)) = j_ := ⟨_, rfl⟩
                            replace H : (if 0 ≤ (ji52) then (if (ji52) ≤ (wrap64 ((ji52) + 1)) then (if (wrap64 ((ji52) + 1)) ≤ (a1.size : Int) then (if (a1.extract ((ji52) : Int).toNat ((wrap64 ((ji52) + 1)) : Int).toNat).toList = (a1.extract (x8_1 : Int).toNat ((wrap64 (x8_1 + 1)) : Int).toNat).toList then (spec_miCan.l0 k1 a0 a1 a2 (a1.size : Int) (wrap64 (x8_1 + 1))) else (some false)) else (none)) else (none)) else (none)) = some r := by first | (rw [hji52] at H; exact H) | (simp only [hji52] at H ⊢; exact H)
                            (try rw [hji52] at c51b0)
                            have hji52w : (IntKind.i64.wrap ((wrap64 (a0 - 1)) - x8_1)) = ji52 := (i64_w _).trans hji52
                            by_cases c53 : 0 ≤ (ji52)
                            · rw [if_pos c53] at H
                              have c53b0 := eq_true c53
                              have c53b1 : decide (0 ≤ (ji52)) = true := decide_eq_true c53
                              clear c53
                              by_cases c54 : (ji52) ≤ (wrap64 ((ji52) + 1))
                              · rw [if_pos c54] at H
                                have c54b0 := eq_true c54
                                have c54b1 : decide ((ji52) ≤ (wrap64 ((ji52) + 1))) = true := decide_eq_true c54
                                by_cases c55 : (wrap64 ((ji52) + 1)) ≤ (a1.size : Int)
                                · rw [if_pos c55] at H
                                  have c55b0 := eq_true c55
                                  have c55b1 : decide ((wrap64 ((ji52) + 1)) ≤ (a1.size : Int)) = true := decide_eq_true c55
                                  by_cases c56 : (a1.extract ((ji52) : Int).toNat ((wrap64 ((ji52) + 1)) : Int).toNat).toList = (a1.extract (x8_1 : Int).toNat ((wrap64 (x8_1 + 1)) : Int).toNat).toList
                                  · rw [if_pos c56] at H
                                    have c56b0 : ((a1.extract ((ji52) : Int).toNat ((wrap64 ((ji52) + 1)) : Int).toNat).toList == (a1.extract (x8_1 : Int).toNat ((wrap64 (x8_1 + 1)) : Int).toNat).toList) = true := beq_iff_eq.mpr c56
                                    have c56b1 : ((a1.extract ((ji52) : Int).toNat ((wrap64 ((ji52) + 1)) : Int).toNat).toList != (a1.extract (x8_1 : Int).toNat ((wrap64 (x8_1 + 1)) : Int).toNat).toList) = false := bne_eq_false_iff_eq.mpr c56
                                    clear c56
                                    have H' := Aside0.mk H
                                    clear H
                                    go_wp2
                                    go_roundg k1
                                    case measure => have := HK1.out; omega
                                    case rel => exact ⟨(wrap64 (x8_1 + 1)), (by first | rfl | (simp; done) | (simp [*]; done)), H', ⟨by have := HK1.out; omega⟩, ⟨by repeat (first | (with_reducible first | exact HB.out | apply below_alloc | apply pw_below_drewN | apply below_drew1) | exact HB.out)⟩⟩
                                  · rw [if_neg c56] at H
                                    have c56b0 : ((a1.extract ((ji52) : Int).toNat ((wrap64 ((ji52) + 1)) : Int).toNat).toList == (a1.extract (x8_1 : Int).toNat ((wrap64 (x8_1 + 1)) : Int).toNat).toList) = false := beq_eq_false_iff_ne.mpr c56
                                    have c56b1 : ((a1.extract ((ji52) : Int).toNat ((wrap64 ((ji52) + 1)) : Int).toNat).toList != (a1.extract (x8_1 : Int).toNat ((wrap64 (x8_1 + 1)) : Int).toNat).toList) = true := bne_iff_ne.mpr c56
                                    obtain rfl := Option.some.inj H
                                    go_wp2
                                    go_ret
                                    exact ⟨by first | rfl | (simp [errW_none, errW_some] <;> rfl) | (simp only [← hji52]; first | rfl | (simp [errW_none, errW_some] <;> rfl)) | (simp [*, errW_none, errW_some] <;> rfl), by repeat (first | (with_reducible first | exact HB.out | apply below_alloc | apply pw_below_drewN | apply below_drew1) | exact HB.out)⟩
                                · rw [if_neg c55] at H
                                  exact absurd H (by simp)
                              · rw [if_neg c54] at H
                                exact absurd H (by simp)
                            · rw [if_neg c53] at H
                              exact absurd H (by simp)
                          · rw [if_neg c51] at H
                            have c51b0 : decide ((wrap64 ((wrap64 (a0 - 1)) - x8_1)) < (a1.size : Int)) = false := decide_eq_false c51
                            clear c51
                            have H' := Aside0.mk H
                            clear H
                            go_wp2
                            go_roundg k1
                            case measure => have := HK1.out; omega
                            case rel => exact ⟨(wrap64 (x8_1 + 1)), (by first | rfl | (simp; done) | (simp [*]; done)), H', ⟨by have := HK1.out; omega⟩, ⟨by repeat (first | (with_reducible first | exact HB.out | apply below_alloc | apply pw_below_drewN | apply below_drew1) | exact HB.out)⟩⟩
                      · rw [if_neg c38] at H
                        exact absurd H (by simp)
                    · rw [if_neg c37] at H
                      exact absurd H (by simp)
                  · rw [if_neg c36] at H
                    exact absurd H (by simp)
                · rw [if_neg c35] at H
                  have c35b0 : decide (x8_1 < (a1.size : Int)) = false := decide_eq_false c35
                  clear c35
                  obtain rfl := Option.some.inj H
                  go_wp2
                  go_ret
                  exact ⟨by first | rfl | (simp [errW_none, errW_some] <;> rfl) | (simp [*, errW_none, errW_some] <;> rfl), by repeat (first | (with_reducible first | exact HB.out | apply below_alloc | apply pw_below_drewN | apply below_drew1) | exact HB.out)⟩

end Go.Proofs.YtpdcjkiejglaiaaDoor.Q

/- Began as the print of our own driver (YtpdcjkiejglaiaaDoorQf42); the comparison <= of two strings, which the printed walk left standing, was given by hand. -/
namespace Go.Proofs.YtpdcjkiejglaiaaDoor.Q
open Go.RowKit Go.Proofs.YtpdcjkiejglaiaaDoorW.PrintWords Go.Proofs.YtpdcjkiejglaiaaDoorW.PrintLast Go.Proofs.YtpdcjkiejglaiaaDoorW.PrintMore
attribute [local go_sem] max2_int min2_int max_two min_two max_three min_three max_four min_four   -- for this text's walks alone
set_option linter.unusedVariables false
set_option linter.unusedSimpArgs false

theorem asym_leq (a b : List UInt8) : (Op.bytesLess a b || a == b) = !(Op.bytesLess b a) := by
  induction a generalizing b with
  | nil => cases b <;> simp [Op.bytesLess]
  | cons x a ih =>
    cases b with
    | nil => simp [Op.bytesLess]
    | cons y b =>
      have := ih b
      simp only [Op.bytesLess]
      by_cases h1 : x < y
      · have h2 : ¬ y < x := UInt8.not_lt.2 (UInt8.le_of_lt h1)
        have h3 : ¬ y = x := by intro e; rw [e] at h1; exact UInt8.lt_irrefl _ h1
        simp [h1, h2, h3]
      · by_cases h2 : y < x
        · have h3 : ¬ x = y := by intro e; rw [e] at h2; exact UInt8.lt_irrefl _ h2
          simp [h1, h2, h3]
        · have h3 : x = y := UInt8.le_antisymm (UInt8.not_lt.1 h2) (UInt8.not_lt.1 h1)
          subst h3
          simpa [h1] using this
@[local go_sem] theorem binOp_string_leq_q (t : TypeId) (a b : ByteArray) : binOp .leq t (.string a) (.string b) = pure (.bool !(Op.bytesLess b.toList a.toList)) := by rw [← asym_leq]; simp [binOp, Op.stringOp]

/-! ### spec_miFirst: function 62 -/
mutual
def spec_miFirst.j0 : Nat → Int → ByteArray → ByteArray → ByteArray → Bool → Option (ByteArray)
  | 0, _, _, _, _, _ => none
  | k + 1, x0, x1, x2, x3, x27 => if x27 = true then (some (⟨#[]⟩ : ByteArray)) else (if (x1.size : Int) = x0 then (if x3.toList = ([] : List UInt8) then (some x1) else (if ((Op.bytesLess x3.toList x1.toList) = true) then (some x1) else (some (⟨#[]⟩ : ByteArray)))) else (spec_miFirst.l0 k x0 x1 x2 x3 0))
def spec_miFirst.l0 : Nat → Int → ByteArray → ByteArray → ByteArray → Int → Option (ByteArray)
  | 0, _, _, _, _, _ => none
  | k + 1, x0, x1, x2, x3, x9 => if x9 < 10 then ((spec_l1Num.f k x9).bind fun t102 => (if x1.size + t102.size ≤ 9223372036854775807 then ((spec_miFirst.f k x0 (x1 ++ t102) x2 x3).bind fun t103 => (if t103.toList = ([] : List UInt8) then (spec_miFirst.l0 k x0 x1 x2 x3 (wrap64 (x9 + 1))) else (some t103))) else (none))) else (some (⟨#[]⟩ : ByteArray))
def spec_miFirst.f : Nat → Int → ByteArray → ByteArray → ByteArray → Option (ByteArray)
  | 0, _, _, _, _ => none
  | k + 1, a0, a1, a2, a3 => (spec_miCan.f k a0 a1 a2).bind fun t101 => (if t101 = true then (if a3.toList = ([] : List UInt8) then (spec_miFirst.j0 k a0 a1 a2 a3 false) else (if 0 ≤ (a1.size : Int) then (if (a1.size : Int) ≤ (a3.size : Int) then (spec_miFirst.j0 k a0 a1 a2 a3 (Op.bytesLess a1.toList ((a3.extract 0 ((a1.size : Int) : Int).toNat).toList))) else (none)) else (none))) else (spec_miFirst.j0 k a0 a1 a2 a3 true))
end
theorem spec_miFirst.mono_l : ∀ k, (∀ y0 y1 y2 y3, LeO (spec_miFirst.f k y0 y1 y2 y3) (spec_miFirst.f (k + 1) y0 y1 y2 y3)) ∧ (∀ y0 y1 y2 y3 y4, LeO (spec_miFirst.j0 k y0 y1 y2 y3 y4) (spec_miFirst.j0 (k + 1) y0 y1 y2 y3 y4)) ∧ (∀ y0 y1 y2 y3 y4, LeO (spec_miFirst.l0 k y0 y1 y2 y3 y4) (spec_miFirst.l0 (k + 1) y0 y1 y2 y3 y4))
  | 0 => ⟨fun _ _ _ _ r h => by simp [spec_miFirst.f] at h, fun _ _ _ _ _ r h => by simp [spec_miFirst.j0] at h, fun _ _ _ _ _ r h => by simp [spec_miFirst.l0] at h⟩
  | k + 1 => by
    obtain ⟨ih0, ih1, ih2⟩ := spec_miFirst.mono_l k
    refine ⟨?_, ?_, ?_⟩
    · intro y0 y1 y2 y3
      unfold spec_miFirst.f
      repeat' first
      | (with_reducible exact ih0 _ _ _ _)
      | (with_reducible exact ih1 _ _ _ _ _)
      | (with_reducible exact ih2 _ _ _ _ _)
      | (with_reducible exact spec_l1Num.mono _ _)
      | (with_reducible exact spec_miCan.mono _ _ _ _)
      | (with_reducible exact LeO.refl _)
      | (with_reducible exact LeO.none _)
      | (with_reducible refine LeO.ite ?_ ?_)
      | (with_reducible refine LeO.bind ?_ (fun _ => ?_))
      | exact ih0 _ _ _ _
      | exact ih1 _ _ _ _ _
      | exact ih2 _ _ _ _ _
      | exact spec_l1Num.mono _ _
      | exact spec_miCan.mono _ _ _ _
      | exact LeO.none _
      | refine LeO.ite ?_ ?_
      | refine LeO.bind ?_ (fun _ => ?_)
    · intro y0 y1 y2 y3 y4
      unfold spec_miFirst.j0
      repeat' first
      | (with_reducible exact ih0 _ _ _ _)
      | (with_reducible exact ih1 _ _ _ _ _)
      | (with_reducible exact ih2 _ _ _ _ _)
      | (with_reducible exact spec_l1Num.mono _ _)
      | (with_reducible exact spec_miCan.mono _ _ _ _)
      | (with_reducible exact LeO.refl _)
      | (with_reducible exact LeO.none _)
      | (with_reducible refine LeO.ite ?_ ?_)
      | (with_reducible refine LeO.bind ?_ (fun _ => ?_))
      | exact ih0 _ _ _ _
      | exact ih1 _ _ _ _ _
      | exact ih2 _ _ _ _ _
      | exact spec_l1Num.mono _ _
      | exact spec_miCan.mono _ _ _ _
      | exact LeO.none _
      | refine LeO.ite ?_ ?_
      | refine LeO.bind ?_ (fun _ => ?_)
    · intro y0 y1 y2 y3 y4
      unfold spec_miFirst.l0
      repeat' first
      | (with_reducible exact ih0 _ _ _ _)
      | (with_reducible exact ih1 _ _ _ _ _)
      | (with_reducible exact ih2 _ _ _ _ _)
      | (with_reducible exact spec_l1Num.mono _ _)
      | (with_reducible exact spec_miCan.mono _ _ _ _)
      | (with_reducible exact LeO.refl _)
      | (with_reducible exact LeO.none _)
      | (with_reducible refine LeO.ite ?_ ?_)
      | (with_reducible refine LeO.bind ?_ (fun _ => ?_))
      | exact ih0 _ _ _ _
      | exact ih1 _ _ _ _ _
      | exact ih2 _ _ _ _ _
      | exact spec_l1Num.mono _ _
      | exact spec_miCan.mono _ _ _ _
      | exact LeO.none _
      | refine LeO.ite ?_ ?_
      | refine LeO.bind ?_ (fun _ => ?_)
theorem spec_miFirst.mono : ∀ a0 a1 a2 a3 k, LeO (spec_miFirst.f k a0 a1 a2 a3) (spec_miFirst.f (k + 1) a0 a1 a2 a3) := by
  intro a0 a1 a2 a3 k
  obtain ⟨ih0, ih1, ih2⟩ := spec_miFirst.mono_l k
  exact ih0 a0 a1 a2 a3
set_option maxHeartbeats 8000000 in
set_option maxRecDepth 100000 in
theorem spec_miFirst.calls (k : Nat) : ∀ (a0 : Int) (a1 : ByteArray) (a2 : ByteArray) (a3 : ByteArray) (r : ByteArray) (w : World) (h : spec_miFirst.f k a0 a1 a2 a3 = some r),
    Calls Tryd.prog 42 #[.int .i64 a0, .string a1, .string a2, .string a3] w fun e w' => e = .returned (.string r) ∧ Below w.heap.size w w' := by
  induction k using Nat.strongRecOn with
  | _ k ih =>
  intro a0 a1 a2 a3 r w h
  cases k with
  | zero => exact absurd h (by simp [spec_miFirst.f])
  | succ k =>
  simp only [spec_miFirst.f] at h
  have HB := Aside0.mk (Below.refl w.heap.size w)
  have H : ((spec_miCan.f k a0 a1 a2).bind fun t101 => (if t101 = true then (if a3.toList = ([] : List UInt8) then (spec_miFirst.j0 k a0 a1 a2 a3 false) else (if 0 ≤ (a1.size : Int) then (if (a1.size : Int) ≤ (a3.size : Int) then (spec_miFirst.j0 k a0 a1 a2 a3 (Op.bytesLess a1.toList ((a3.extract 0 ((a1.size : Int) : Int).toNat).toList))) else (none)) else (none))) else (spec_miFirst.j0 k a0 a1 a2 a3 true))) = some r := h
  clear h
  have HC5 := Aside0.mk H
  clear H
  go_enter Tryd.func42, Tryd.ntmps42
  go_upto_region 1 with (fail)
  go_cut [27] (fun v27 wc => ∃ (kq : Nat) (x27_4 : Bool), v27 = .bool x27_4 ∧ Aside0 (spec_miFirst.j0 kq a0 a1 a2 a3 x27_4 = some r) ∧ Aside0 (kq ≤ k) ∧ Aside0 (Below w.heap.size w wc))
  case first =>
    have H := HC5.out
    clear HC5
    replace H := Option.bind_eq_some_iff.mp H
    obtain ⟨t101, A60, H⟩ := H
    replace H : (if t101 = true then (if a3.toList = ([] : List UInt8) then (spec_miFirst.j0 k a0 a1 a2 a3 false) else (if 0 ≤ (a1.size : Int) then (if (a1.size : Int) ≤ (a3.size : Int) then (spec_miFirst.j0 k a0 a1 a2 a3 (Op.bytesLess a1.toList ((a3.extract 0 ((a1.size : Int) : Int).toNat).toList))) else (none)) else (none))) else (spec_miFirst.j0 k a0 a1 a2 a3 true)) = some r := H
    have A6 := Aside0.mk A60
    clear A60
    by_cases c7 : t101 = true
    · subst c7
      have H1 : (if a3.toList = ([] : List UInt8) then (spec_miFirst.j0 k a0 a1 a2 a3 false) else (if 0 ≤ (a1.size : Int) then (if (a1.size : Int) ≤ (a3.size : Int) then (spec_miFirst.j0 k a0 a1 a2 a3 (Op.bytesLess a1.toList ((a3.extract 0 ((a1.size : Int) : Int).toNat).toList))) else (none)) else (none))) = some r := by rw [if_pos rfl] at H; exact H
      clear H
      have H := H1
      clear H1
      by_cases c8 : a3.toList = ([] : List UInt8)
      · rw [if_pos c8] at H
        have c8b0 : (a3.toList == ([] : List UInt8)) = true := beq_iff_eq.mpr c8
        have c8b1 : (a3.toList != ([] : List UInt8)) = false := bne_eq_false_iff_eq.mpr c8
        clear c8
        (first | rw [c8b0] | (simp only [i64_w, i32_w]; rw [c8b0]) | skip)
        have H' := Aside0.mk H
        clear H
        go_wp2_with (first | ((with_reducible refine gate_callee (f := 52) rfl ?_); refine goesL_ (some 14) rfl rfl Tryd.func52 (by kernel_rfl) rfl #[.int .i64 a0, .string a1, .string a2] rfl (by (try simp only [List.map_toArray, List.map_cons, List.map_nil]); first | done | rfl | (simp only [List.length_drop, List.length_take]; rfl)) ?_; (with_reducible refine (spec_miCan.calls k a0 a1 a2 true _ A6.out).mono ?_); rintro e w9 ⟨rfl, hb⟩; refine ⟨_, rfl, ?_⟩; have n0_ := Aside0.mk (below_step (by repeat (first | (with_reducible first | exact HB.out | apply below_alloc | apply pw_below_drewN | apply below_drew1) | exact HB.out)) hb); clear HB; have HB := n0_; clear n0_; (try clear hb); (try clear hb2); (try clear hk); (try clear hi)))
        go_meet
        case rel => exact ⟨_, (false), (by first | rfl | (simp; done) | (simp [*]; done)), H', ⟨by first | omega | exact Nat.le_refl _⟩, ⟨by repeat (first | (with_reducible first | exact HB.out | apply below_alloc | apply pw_below_drewN | apply below_drew1) | exact HB.out)⟩⟩
      · rw [if_neg c8] at H
        have c8b0 : (a3.toList == ([] : List UInt8)) = false := beq_eq_false_iff_ne.mpr c8
        have c8b1 : (a3.toList != ([] : List UInt8)) = true := bne_iff_ne.mpr c8
        (first | rw [c8b0] | (simp only [i64_w, i32_w]; rw [c8b0]) | skip)
        by_cases c10 : 0 ≤ (a1.size : Int)
        · rw [if_pos c10] at H
          have c10b0 := eq_true c10
          have c10b1 : decide (0 ≤ (a1.size : Int)) = true := decide_eq_true c10
          clear c10
          by_cases c11 : (a1.size : Int) ≤ (a3.size : Int)
          · rw [if_pos c11] at H
            have c11b0 := eq_true c11
            have c11b1 : decide ((a1.size : Int) ≤ (a3.size : Int)) = true := decide_eq_true c11
            clear c11
            have H' := Aside0.mk H
            clear H
            go_wp2_with (first | ((with_reducible refine gate_callee (f := 52) rfl ?_); refine goesL_ (some 14) rfl rfl Tryd.func52 (by kernel_rfl) rfl #[.int .i64 a0, .string a1, .string a2] rfl (by (try simp only [List.map_toArray, List.map_cons, List.map_nil]); first | done | rfl | (simp only [List.length_drop, List.length_take]; rfl)) ?_; (with_reducible refine (spec_miCan.calls k a0 a1 a2 true _ A6.out).mono ?_); rintro e w12 ⟨rfl, hb⟩; refine ⟨_, rfl, ?_⟩; have n0_ := Aside0.mk (below_step (by repeat (first | (with_reducible first | exact HB.out | apply below_alloc | apply pw_below_drewN | apply below_drew1) | exact HB.out)) hb); clear HB; have HB := n0_; clear n0_; (try clear hb); (try clear hb2); (try clear hk); (try clear hi)))
            go_meet
            case rel => exact ⟨_, ((Op.bytesLess a1.toList ((a3.extract 0 ((a1.size : Int) : Int).toNat).toList))), (by first | rfl | (simp; done) | (simp [*]; done)), H', ⟨by first | omega | exact Nat.le_refl _⟩, ⟨by repeat (first | (with_reducible first | exact HB.out | apply below_alloc | apply pw_below_drewN | apply below_drew1) | exact HB.out)⟩⟩
          · rw [if_neg c11] at H
            exact absurd H (by simp)
        · rw [if_neg c10] at H
          exact absurd H (by simp)
    · replace c7 := Bool.eq_false_iff.mpr c7
      subst c7
      have H1 : (spec_miFirst.j0 k a0 a1 a2 a3 true) = some r := by rw [if_neg (show ¬ (false = true) by decide)] at H; exact H
      clear H
      have H := H1
      clear H1
      have H' := Aside0.mk H
      clear H
      go_wp2_with (first | ((with_reducible refine gate_callee (f := 52) rfl ?_); refine goesL_ (some 14) rfl rfl Tryd.func52 (by kernel_rfl) rfl #[.int .i64 a0, .string a1, .string a2] rfl (by (try simp only [List.map_toArray, List.map_cons, List.map_nil]); first | done | rfl | (simp only [List.length_drop, List.length_take]; rfl)) ?_; (with_reducible refine (spec_miCan.calls k a0 a1 a2 false _ A6.out).mono ?_); rintro e w13 ⟨rfl, hb⟩; refine ⟨_, rfl, ?_⟩; have n0_ := Aside0.mk (below_step (by repeat (first | (with_reducible first | exact HB.out | apply below_alloc | apply pw_below_drewN | apply below_drew1) | exact HB.out)) hb); clear HB; have HB := n0_; clear n0_; (try clear hb); (try clear hb2); (try clear hk); (try clear hi)))
      go_meet
      case rel => exact ⟨_, (true), (by first | rfl | (simp; done) | (simp [*]; done)), H', ⟨by first | omega | exact Nat.le_refl _⟩, ⟨by repeat (first | (with_reducible first | exact HB.out | apply below_alloc | apply pw_below_drewN | apply below_drew1) | exact HB.out)⟩⟩
  case rest =>
    clear HC5
    try clear c1
    try clear p2
    try clear c6
    try clear c7
    try clear c8
    try clear c8b0
    try clear c8b1
    try clear c10
    try clear c10b0
    try clear c10b1
    try clear c11
    try clear c11b0
    try clear c11b1
    obtain ⟨kq, x27_4, rfl, HA, HJ4, HB⟩ := hcut
    cases kq with
    | zero => exact absurd HA.out (by simp [spec_miFirst.j0])
    | succ kj4 =>
      have H := HA.out
      clear HA
      simp only [spec_miFirst.j0] at H
      by_cases c14 : x27_4 = true
      · subst c14
        have H1 : (some (⟨#[]⟩ : ByteArray)) = some r := by rw [if_pos rfl] at H; exact H
        clear H
        have H := H1
        clear H1
        obtain rfl := Option.some.inj H
        go_wp2
        go_ret
        exact ⟨by first | rfl | (simp [errW_none, errW_some] <;> rfl) | (simp [*, errW_none, errW_some] <;> rfl), by repeat (first | (with_reducible first | exact HB.out | apply below_alloc | apply pw_below_drewN | apply below_drew1) | exact HB.out)⟩
      · replace c14 := Bool.eq_false_iff.mpr c14
        subst c14
        have H1 : (if (a1.size : Int) = a0 then (if a3.toList = ([] : List UInt8) then (some a1) else (if ((Op.bytesLess a3.toList a1.toList) = true) then (some a1) else (some (⟨#[]⟩ : ByteArray)))) else (spec_miFirst.l0 kj4 a0 a1 a2 a3 0)) = some r := by rw [if_neg (show ¬ (false = true) by decide)] at H; exact H
        clear H
        have H := H1
        clear H1
        by_cases c15 : (a1.size : Int) = a0
        · rw [if_pos c15] at H
          have c15b0 : ((a1.size : Int) == a0) = true := beq_iff_eq.mpr c15
          have c15b1 : ((a1.size : Int) != a0) = false := bne_eq_false_iff_eq.mpr c15
          clear c15
          by_cases c16 : a3.toList = ([] : List UInt8)
          · rw [if_pos c16] at H
            have c16b0 : (a3.toList == ([] : List UInt8)) = true := beq_iff_eq.mpr c16
            have c16b1 : (a3.toList != ([] : List UInt8)) = false := bne_eq_false_iff_eq.mpr c16
            clear c16
            obtain rfl := Option.some.inj H
            go_wp2
            go_ret
            exact ⟨by first | rfl | (simp [errW_none, errW_some] <;> rfl) | (simp [*, errW_none, errW_some] <;> rfl), by repeat (first | (with_reducible first | exact HB.out | apply below_alloc | apply pw_below_drewN | apply below_drew1) | exact HB.out)⟩
          · rw [if_neg c16] at H
            have c16b0 : (a3.toList == ([] : List UInt8)) = false := beq_eq_false_iff_ne.mpr c16
            have c16b1 : (a3.toList != ([] : List UInt8)) = true := bne_iff_ne.mpr c16
            by_cases c17 : ((Op.bytesLess a3.toList a1.toList) = true)
            · rw [if_pos c17] at H
              have c17b0 : (Op.bytesLess a3.toList a1.toList) = true := c17
              clear c17
              obtain rfl := Option.some.inj H
              go_wp2
              go_ret
              exact ⟨by first | rfl | (simp [errW_none, errW_some] <;> rfl) | (simp [*, errW_none, errW_some] <;> rfl), by repeat (first | (with_reducible first | exact HB.out | apply below_alloc | apply pw_below_drewN | apply below_drew1) | exact HB.out)⟩
            · rw [if_neg c17] at H
              have c17b0 : (Op.bytesLess a3.toList a1.toList) = false := by simpa using c17
              clear c17
              obtain rfl := Option.some.inj H
              go_wp2
              go_ret
              exact ⟨by first | rfl | (simp [errW_none, errW_some] <;> rfl) | (simp [*, errW_none, errW_some] <;> rfl), by repeat (first | (with_reducible first | exact HB.out | apply below_alloc | apply pw_below_drewN | apply below_drew1) | exact HB.out)⟩
        · rw [if_neg c15] at H
          have c15b0 : ((a1.size : Int) == a0) = false := beq_eq_false_iff_ne.mpr c15
          have c15b1 : ((a1.size : Int) != a0) = true := bne_iff_ne.mpr c15
          have H' := Aside0.mk H
          clear H
          go_wp2
          go_loopg [9] kj4 (fun kq v9 w' => ∃ (x9_2 : Int), v9 = .int .i64 x9_2 ∧ Aside0 (spec_miFirst.l0 kq a0 a1 a2 a3 x9_2 = some r) ∧ Aside0 (kq ≤ kj4) ∧ Aside0 (Below w.heap.size w w'))
          case atStart => exact ⟨(0), (by first | rfl | (simp; done) | (simp [*]; done)), H', ⟨Nat.le_refl _⟩, ⟨by repeat (first | (with_reducible first | exact HB.out | apply below_alloc | apply pw_below_drewN | apply below_drew1) | exact HB.out)⟩⟩
          case round =>
            clear H'
            try clear c1
            try clear p2
            try clear c6
            try clear c7
            try clear c8
            try clear c8b0
            try clear c8b1
            try clear c10
            try clear c10b0
            try clear c10b1
            try clear c11
            try clear c11b0
            try clear c11b1
            try clear c14
            try clear c15
            try clear c15b0
            try clear c15b1
            try clear c16
            try clear c16b0
            try clear c16b1
            try clear c17
            try clear c17b0
            try clear p2
            obtain ⟨x9_2, rfl, HA, HK2, HB⟩ := hrel
            cases gk with
            | zero => exact absurd HA.out (by simp [spec_miFirst.l0])
            | succ k2 =>
              have H := HA.out
              clear HA
              simp only [spec_miFirst.l0] at H
              by_cases c18 : x9_2 < 10
              · rw [if_pos c18] at H
                have c18b0 : decide (x9_2 < 10) = true := decide_eq_true c18
                clear c18
                replace H := Option.bind_eq_some_iff.mp H
                obtain ⟨t102, A190, H⟩ := H
                replace H : (if a1.size + t102.size ≤ 9223372036854775807 then ((spec_miFirst.f k2 a0 (a1 ++ t102) a2 a3).bind fun t103 => (if t103.toList = ([] : List UInt8) then (spec_miFirst.l0 k2 a0 a1 a2 a3 (wrap64 (x9_2 + 1))) else (some t103))) else (none)) = some r := H
                have A19 := Aside0.mk A190
                clear A190
                by_cases c20 : a1.size + t102.size ≤ 9223372036854775807
                · rw [if_pos c20] at H
                  have c20b0 := eq_true c20
                  have c20b1 : decide (a1.size + t102.size ≤ 9223372036854775807) = true := decide_eq_true c20
                  try have c20b2 : (9223372036854775807 < a1.size + t102.size) = False := eq_false (Nat.not_lt.2 c20)
                  replace H := Option.bind_eq_some_iff.mp H
                  obtain ⟨t103, A210, H⟩ := H
                  replace H : (if t103.toList = ([] : List UInt8) then (spec_miFirst.l0 k2 a0 a1 a2 a3 (wrap64 (x9_2 + 1))) else (some t103)) = some r := H
                  have A21 := Aside0.mk A210
                  clear A210
                  by_cases c22 : t103.toList = ([] : List UInt8)
                  · rw [if_pos c22] at H
                    have c22b0 : (t103.toList == ([] : List UInt8)) = true := beq_iff_eq.mpr c22
                    have c22b1 : (t103.toList != ([] : List UInt8)) = false := bne_eq_false_iff_eq.mpr c22
                    clear c22
                    have H' := Aside0.mk H
                    clear H
                    go_wp2_with (first | ((with_reducible refine gate_callee (f := 53) rfl ?_); refine goesL_ (some 47) rfl rfl Tryd.func53 (by kernel_rfl) rfl #[.int .i64 x9_2] rfl (by (try simp only [List.map_toArray, List.map_cons, List.map_nil]); first | done | rfl | (simp only [List.length_drop, List.length_take]; rfl)) ?_; (with_reducible refine (spec_l1Num.calls k2 x9_2 t102 _ A19.out).mono ?_); rintro e w23 ⟨rfl, hb⟩; refine ⟨_, rfl, ?_⟩; have n0_ := Aside0.mk (below_step (by repeat (first | (with_reducible first | exact HB.out | apply below_alloc | apply pw_below_drewN | apply below_drew1) | exact HB.out)) hb); clear HB; have HB := n0_; clear n0_; (try clear hb); (try clear hb2); (try clear hk); (try clear hi)) | ((with_reducible refine gate_callee (f := 42) rfl ?_); refine goesL_ (some 51) rfl rfl Tryd.func42 (by kernel_rfl) rfl #[.int .i64 a0, .string (a1 ++ t102), .string a2, .string a3] rfl (by (try simp only [List.map_toArray, List.map_cons, List.map_nil]); first | done | rfl | (simp only [List.length_drop, List.length_take]; rfl)) ?_; (with_reducible refine (ih k2 (by have := HJ4.out; have := HK2.out; omega) a0 (a1 ++ t102) a2 a3 t103 _ A21.out).mono ?_); rintro e w24 ⟨rfl, hb⟩; refine ⟨_, rfl, ?_⟩; have n0_ := Aside0.mk (below_step (by repeat (first | (with_reducible first | exact HB.out | apply below_alloc | apply pw_below_drewN | apply below_drew1) | exact HB.out)) hb); clear HB; have HB := n0_; clear n0_; (try clear hb); (try clear hb2); (try clear hk); (try clear hi)))
                    go_roundg k2
                    case measure => have := HJ4.out; have := HK2.out; omega
                    case rel => exact ⟨(wrap64 (x9_2 + 1)), (by first | rfl | (simp; done) | (simp [*]; done)), H', ⟨by have := HJ4.out; have := HK2.out; omega⟩, ⟨by repeat (first | (with_reducible first | exact HB.out | apply below_alloc | apply pw_below_drewN | apply below_drew1) | exact HB.out)⟩⟩
                  · rw [if_neg c22] at H
                    have c22b0 : (t103.toList == ([] : List UInt8)) = false := beq_eq_false_iff_ne.mpr c22
                    have c22b1 : (t103.toList != ([] : List UInt8)) = true := bne_iff_ne.mpr c22
                    obtain rfl := Option.some.inj H
                    go_wp2_with (first | ((with_reducible refine gate_callee (f := 53) rfl ?_); refine goesL_ (some 47) rfl rfl Tryd.func53 (by kernel_rfl) rfl #[.int .i64 x9_2] rfl (by (try simp only [List.map_toArray, List.map_cons, List.map_nil]); first | done | rfl | (simp only [List.length_drop, List.length_take]; rfl)) ?_; (with_reducible refine (spec_l1Num.calls k2 x9_2 t102 _ A19.out).mono ?_); rintro e w25 ⟨rfl, hb⟩; refine ⟨_, rfl, ?_⟩; have n0_ := Aside0.mk (below_step (by repeat (first | (with_reducible first | exact HB.out | apply below_alloc | apply pw_below_drewN | apply below_drew1) | exact HB.out)) hb); clear HB; have HB := n0_; clear n0_; (try clear hb); (try clear hb2); (try clear hk); (try clear hi)) | ((with_reducible refine gate_callee (f := 42) rfl ?_); refine goesL_ (some 51) rfl rfl Tryd.func42 (by kernel_rfl) rfl #[.int .i64 a0, .string (a1 ++ t102), .string a2, .string a3] rfl (by (try simp only [List.map_toArray, List.map_cons, List.map_nil]); first | done | rfl | (simp only [List.length_drop, List.length_take]; rfl)) ?_; (with_reducible refine (ih k2 (by have := HJ4.out; have := HK2.out; omega) a0 (a1 ++ t102) a2 a3 t103 _ A21.out).mono ?_); rintro e w26 ⟨rfl, hb⟩; refine ⟨_, rfl, ?_⟩; have n0_ := Aside0.mk (below_step (by repeat (first | (with_reducible first | exact HB.out | apply below_alloc | apply pw_below_drewN | apply below_drew1) | exact HB.out)) hb); clear HB; have HB := n0_; clear n0_; (try clear hb); (try clear hb2); (try clear hk); (try clear hi)))
                    go_ret
                    exact ⟨by first | rfl | (simp [errW_none, errW_some] <;> rfl) | (simp [*, errW_none, errW_some] <;> rfl), by repeat (first | (with_reducible first | exact HB.out | apply below_alloc | apply pw_below_drewN | apply below_drew1) | exact HB.out)⟩
                · rw [if_neg c20] at H
                  exact absurd H (by simp)
              · rw [if_neg c18] at H
                have c18b0 : decide (x9_2 < 10) = false := decide_eq_false c18
                clear c18
                obtain rfl := Option.some.inj H
                go_wp2
                go_ret
                exact ⟨by first | rfl | (simp [errW_none, errW_some] <;> rfl) | (simp [*, errW_none, errW_some] <;> rfl), by repeat (first | (with_reducible first | exact HB.out | apply below_alloc | apply pw_below_drewN | apply below_drew1) | exact HB.out)⟩

end Go.Proofs.YtpdcjkiejglaiaaDoor.Q

/- Laid by a program of this session (wip/tools/own_print.py) over the translation of this seat: contracts of the functions that the statement reaches. -/
namespace Go.Proofs.YtpdcjkiejglaiaaDoor.Q
open Go.RowKit Go.Proofs.YtpdcjkiejglaiaaDoorW.PrintWords Go.Proofs.YtpdcjkiejglaiaaDoorW.PrintLast Go.Proofs.YtpdcjkiejglaiaaDoorW.PrintMore
attribute [local go_sem] max2_int min2_int max_two min_two max_three min_three max_four min_four   -- for this text's walks alone
set_option linter.unusedVariables false
set_option linter.unusedSimpArgs false

/-! ### spec_miNext: function 25 -/
def spec_miNext.f (k : Nat) (a0 : ByteArray) (a1 : ByteArray) : Option (ByteArray) := (spec_miFirst.f k (a0.size : Int) (⟨#[]⟩ : ByteArray) a1 a0).bind fun t101 => (if t101.toList = ([] : List UInt8) then ((spec_miFirst.f k (a0.size : Int) (⟨#[]⟩ : ByteArray) a1 (⟨#[]⟩ : ByteArray)).bind fun t102 => (some t102)) else (some t101))
theorem spec_miNext.mono : ∀ a0 a1 k, LeO (spec_miNext.f k a0 a1) (spec_miNext.f (k + 1) a0 a1) := by
  intro a0 a1 k
  unfold spec_miNext.f
  repeat' first
      | (with_reducible exact spec_miFirst.mono _ _ _ _ _)
      | (with_reducible exact LeO.refl _)
      | (with_reducible exact LeO.none _)
      | (with_reducible refine LeO.ite ?_ ?_)
      | (with_reducible refine LeO.bind ?_ (fun _ => ?_))
      | exact spec_miFirst.mono _ _ _ _ _
      | exact LeO.none _
      | refine LeO.ite ?_ ?_
      | refine LeO.bind ?_ (fun _ => ?_)
set_option maxHeartbeats 8000000 in
set_option maxRecDepth 100000 in
theorem spec_miNext.calls (k : Nat) (a0 : ByteArray) (a1 : ByteArray) (r : ByteArray) (w : World) (h : spec_miNext.f k a0 a1 = some r) :
    Calls Tryd.prog 25 #[.string a0, .string a1] w fun e w' => e = .returned (.string r) ∧ Below w.heap.size w w' := by
  have HB := Aside0.mk (Below.refl w.heap.size w)
  have H : ((spec_miFirst.f k (a0.size : Int) (⟨#[]⟩ : ByteArray) a1 a0).bind fun t101 => (if t101.toList = ([] : List UInt8) then ((spec_miFirst.f k (a0.size : Int) (⟨#[]⟩ : ByteArray) a1 (⟨#[]⟩ : ByteArray)).bind fun t102 => (some t102)) else (some t101))) = some r := h
  clear h
  replace H := Option.bind_eq_some_iff.mp H
  obtain ⟨t101, A30, H⟩ := H
  replace H : (if t101.toList = ([] : List UInt8) then ((spec_miFirst.f k (a0.size : Int) (⟨#[]⟩ : ByteArray) a1 (⟨#[]⟩ : ByteArray)).bind fun t102 => (some t102)) else (some t101)) = some r := H
  have A3 := Aside0.mk A30
  clear A30
  by_cases c4 : t101.toList = ([] : List UInt8)
  · rw [if_pos c4] at H
    have c4b0 : (t101.toList == ([] : List UInt8)) = true := beq_iff_eq.mpr c4
    have c4b1 : (t101.toList != ([] : List UInt8)) = false := bne_eq_false_iff_eq.mpr c4
    clear c4
    replace H := Option.bind_eq_some_iff.mp H
    obtain ⟨t102, A50, H⟩ := H
    replace H : (some t102) = some r := H
    have A5 := Aside0.mk A50
    clear A50
    obtain rfl := Option.some.inj H
    go_enter Tryd.func25, Tryd.ntmps25
    go_wp2_with (first | ((with_reducible refine gate_callee (f := 42) rfl ?_); refine goesL_ (some 10) rfl rfl Tryd.func42 (by kernel_rfl) rfl #[.int .i64 (a0.size : Int), .string (⟨#[]⟩ : ByteArray), .string a1, .string a0] rfl (by (try simp only [List.map_toArray, List.map_cons, List.map_nil]); first | done | rfl | (simp only [List.length_drop, List.length_take]; rfl)) ?_; (with_reducible refine (spec_miFirst.calls k (a0.size : Int) (⟨#[]⟩ : ByteArray) a1 a0 t101 _ A3.out).mono ?_); rintro e w6 ⟨rfl, hb⟩; refine ⟨_, rfl, ?_⟩; have n0_ := Aside0.mk (below_step (by repeat (first | (with_reducible first | exact HB.out | apply below_alloc | apply pw_below_drewN | apply below_drew1) | exact HB.out)) hb); clear HB; have HB := n0_; clear n0_; (try clear hb); (try clear hb2); (try clear hk); (try clear hi)) | ((with_reducible refine gate_callee (f := 42) rfl ?_); refine goesL_ (some 16) rfl rfl Tryd.func42 (by kernel_rfl) rfl #[.int .i64 (a0.size : Int), .string (⟨#[]⟩ : ByteArray), .string a1, .string (⟨#[]⟩ : ByteArray)] rfl (by (try simp only [List.map_toArray, List.map_cons, List.map_nil]); first | done | rfl | (simp only [List.length_drop, List.length_take]; rfl)) ?_; (with_reducible refine (spec_miFirst.calls k (a0.size : Int) (⟨#[]⟩ : ByteArray) a1 (⟨#[]⟩ : ByteArray) t102 _ A5.out).mono ?_); rintro e w7 ⟨rfl, hb⟩; refine ⟨_, rfl, ?_⟩; have n0_ := Aside0.mk (below_step (by repeat (first | (with_reducible first | exact HB.out | apply below_alloc | apply pw_below_drewN | apply below_drew1) | exact HB.out)) hb); clear HB; have HB := n0_; clear n0_; (try clear hb); (try clear hb2); (try clear hk); (try clear hi)))
    go_ret
    exact ⟨by first | rfl | (simp [errW_none, errW_some] <;> rfl) | (simp [*, errW_none, errW_some] <;> rfl), by repeat (first | (with_reducible first | exact HB.out | apply below_alloc | apply pw_below_drewN | apply below_drew1) | exact HB.out)⟩
  · rw [if_neg c4] at H
    have c4b0 : (t101.toList == ([] : List UInt8)) = false := beq_eq_false_iff_ne.mpr c4
    have c4b1 : (t101.toList != ([] : List UInt8)) = true := bne_iff_ne.mpr c4
    obtain rfl := Option.some.inj H
    go_enter Tryd.func25, Tryd.ntmps25
    go_wp2_with (first | ((with_reducible refine gate_callee (f := 42) rfl ?_); refine goesL_ (some 10) rfl rfl Tryd.func42 (by kernel_rfl) rfl #[.int .i64 (a0.size : Int), .string (⟨#[]⟩ : ByteArray), .string a1, .string a0] rfl (by (try simp only [List.map_toArray, List.map_cons, List.map_nil]); first | done | rfl | (simp only [List.length_drop, List.length_take]; rfl)) ?_; (with_reducible refine (spec_miFirst.calls k (a0.size : Int) (⟨#[]⟩ : ByteArray) a1 a0 t101 _ A3.out).mono ?_); rintro e w8 ⟨rfl, hb⟩; refine ⟨_, rfl, ?_⟩; have n0_ := Aside0.mk (below_step (by repeat (first | (with_reducible first | exact HB.out | apply below_alloc | apply pw_below_drewN | apply below_drew1) | exact HB.out)) hb); clear HB; have HB := n0_; clear n0_; (try clear hb); (try clear hb2); (try clear hk); (try clear hi)))
    go_ret
    exact ⟨by first | rfl | (simp [errW_none, errW_some] <;> rfl) | (simp [*, errW_none, errW_some] <;> rfl), by repeat (first | (with_reducible first | exact HB.out | apply below_alloc | apply pw_below_drewN | apply below_drew1) | exact HB.out)⟩

end Go.Proofs.YtpdcjkiejglaiaaDoor.Q

/- Laid by a program of this session (wip/tools/own_print.py) over the translation of this seat: contracts of the functions that the statement reaches. -/
namespace Go.Proofs.YtpdcjkiejglaiaaDoor.Q
open Go.RowKit Go.Proofs.YtpdcjkiejglaiaaDoorW.PrintWords Go.Proofs.YtpdcjkiejglaiaaDoorW.PrintLast Go.Proofs.YtpdcjkiejglaiaaDoorW.PrintMore
attribute [local go_sem] max2_int min2_int max_two min_two max_three min_three max_four min_four   -- for this text's walks alone
set_option linter.unusedVariables false
set_option linter.unusedSimpArgs false

/-! ### spec_NextOfKind: function 11 -/
def spec_NextOfKind.f (k : Nat) (a0 : ByteArray) (a1 : ByteArray) : Option (ByteArray × Bool) := (spec_miGood.f k a0).bind fun t101 => (if t101 = true then ((spec_miKind.f k a1).bind fun t102 => (if t102 = true then ((spec_miNext.f k a0 a1).bind fun t103 => (some (t103, (t103.toList != ([] : List UInt8))))) else (some ((⟨#[]⟩ : ByteArray), false)))) else (some ((⟨#[]⟩ : ByteArray), false)))
theorem spec_NextOfKind.mono : ∀ a0 a1 k, LeO (spec_NextOfKind.f k a0 a1) (spec_NextOfKind.f (k + 1) a0 a1) := by
  intro a0 a1 k
  unfold spec_NextOfKind.f
  repeat' first
      | (with_reducible exact spec_miGood.mono _ _)
      | (with_reducible exact spec_miKind.mono _ _)
      | (with_reducible exact spec_miNext.mono _ _ _)
      | (with_reducible exact LeO.refl _)
      | (with_reducible exact LeO.none _)
      | (with_reducible refine LeO.ite ?_ ?_)
      | (with_reducible refine LeO.bind ?_ (fun _ => ?_))
      | exact spec_miGood.mono _ _
      | exact spec_miKind.mono _ _
      | exact spec_miNext.mono _ _ _
      | exact LeO.none _
      | refine LeO.ite ?_ ?_
      | refine LeO.bind ?_ (fun _ => ?_)
set_option maxHeartbeats 8000000 in
set_option maxRecDepth 100000 in
theorem spec_NextOfKind.calls (k : Nat) (a0 : ByteArray) (a1 : ByteArray) (r1 : ByteArray) (r2 : Bool) (w : World) (h : spec_NextOfKind.f k a0 a1 = some (r1, r2)) :
    Calls Tryd.prog 11 #[.string a0, .string a1] w fun e w' => e = .returned (.tuple #[.string r1, .bool r2]) ∧ Below w.heap.size w w' := by
  have HB := Aside0.mk (Below.refl w.heap.size w)
  have H : ((spec_miGood.f k a0).bind fun t101 => (if t101 = true then ((spec_miKind.f k a1).bind fun t102 => (if t102 = true then ((spec_miNext.f k a0 a1).bind fun t103 => (some (t103, (t103.toList != ([] : List UInt8))))) else (some ((⟨#[]⟩ : ByteArray), false)))) else (some ((⟨#[]⟩ : ByteArray), false)))) = some (r1, r2) := h
  clear h
  replace H := Option.bind_eq_some_iff.mp H
  obtain ⟨t101, A30, H⟩ := H
  replace H : (if t101 = true then ((spec_miKind.f k a1).bind fun t102 => (if t102 = true then ((spec_miNext.f k a0 a1).bind fun t103 => (some (t103, (t103.toList != ([] : List UInt8))))) else (some ((⟨#[]⟩ : ByteArray), false)))) else (some ((⟨#[]⟩ : ByteArray), false))) = some (r1, r2) := H
  have A3 := Aside0.mk A30
  clear A30
  by_cases c4 : t101 = true
  · subst c4
    have H1 : ((spec_miKind.f k a1).bind fun t102 => (if t102 = true then ((spec_miNext.f k a0 a1).bind fun t103 => (some (t103, (t103.toList != ([] : List UInt8))))) else (some ((⟨#[]⟩ : ByteArray), false)))) = some (r1, r2) := by rw [if_pos rfl] at H; exact H
    clear H
    have H := H1
    clear H1
    replace H := Option.bind_eq_some_iff.mp H
    obtain ⟨t102, A50, H⟩ := H
    replace H : (if t102 = true then ((spec_miNext.f k a0 a1).bind fun t103 => (some (t103, (t103.toList != ([] : List UInt8))))) else (some ((⟨#[]⟩ : ByteArray), false))) = some (r1, r2) := H
    have A5 := Aside0.mk A50
    clear A50
    by_cases c6 : t102 = true
    · subst c6
      have H1 : ((spec_miNext.f k a0 a1).bind fun t103 => (some (t103, (t103.toList != ([] : List UInt8))))) = some (r1, r2) := by rw [if_pos rfl] at H; exact H
      clear H
      have H := H1
      clear H1
      replace H := Option.bind_eq_some_iff.mp H
      obtain ⟨t103, A70, H⟩ := H
      replace H : (some (t103, (t103.toList != ([] : List UInt8)))) = some (r1, r2) := H
      have A7 := Aside0.mk A70
      clear A70
      simp only [Option.some.injEq, Prod.mk.injEq] at H
      obtain ⟨rfl, rfl⟩ := H
      go_enter Tryd.func11, Tryd.ntmps11
      go_wp2_with (first | ((with_reducible refine gate_callee (f := 23) rfl ?_); refine goesL_ (some 8) rfl rfl Tryd.func23 (by kernel_rfl) rfl #[.string a0] rfl (by (try simp only [List.map_toArray, List.map_cons, List.map_nil]); first | done | rfl | (simp only [List.length_drop, List.length_take]; rfl)) ?_; (with_reducible refine (spec_miGood.calls k a0 true _ A3.out).mono ?_); rintro e w' ⟨rfl, ⟨nd, rfl⟩⟩; refine ⟨_, rfl, ?_⟩) | (go_at_call 24; (with_reducible refine (spec_miKind.calls k a1 true _ A5.out).mono ?_); rintro e w8 ⟨rfl, hb⟩; have n0_ := Aside0.mk (below_step (by repeat (first | (with_reducible first | exact HB.out | apply below_alloc | apply pw_below_drewN | apply below_drew1) | exact HB.out)) hb); clear HB; have HB := n0_; clear n0_; (try clear hb); (try clear hb2); (try clear hk); (try clear hi)) | ((with_reducible refine gate_callee (f := 25) rfl ?_); refine goesL_ (some 17) rfl rfl Tryd.func25 (by kernel_rfl) rfl #[.string a0, .string a1] rfl (by (try simp only [List.map_toArray, List.map_cons, List.map_nil]); first | done | rfl | (simp only [List.length_drop, List.length_take]; rfl)) ?_; (with_reducible refine (spec_miNext.calls k a0 a1 t103 _ A7.out).mono ?_); rintro e w9 ⟨rfl, hb⟩; refine ⟨_, rfl, ?_⟩; have n0_ := Aside0.mk (below_step (by repeat (first | (with_reducible first | exact HB.out | apply below_alloc | apply pw_below_drewN | apply below_drew1) | exact HB.out)) hb); clear HB; have HB := n0_; clear n0_; (try clear hb); (try clear hb2); (try clear hk); (try clear hi)))
      go_ret2
      exact ⟨by first | rfl | (simp [errW_none, errW_some] <;> rfl) | (simp [errW_none, errW_some] <;> (generalize t103.toList = l11_; cases l11_ <;> rfl)) | (simp [*, errW_none, errW_some] <;> rfl), by repeat (first | (with_reducible first | exact HB.out | apply below_alloc | apply pw_below_drewN | apply below_drew1) | exact HB.out)⟩
    · replace c6 := Bool.eq_false_iff.mpr c6
      subst c6
      have H1 : (some ((⟨#[]⟩ : ByteArray), false)) = some (r1, r2) := by rw [if_neg (show ¬ (false = true) by decide)] at H; exact H
      clear H
      have H := H1
      clear H1
      simp only [Option.some.injEq, Prod.mk.injEq] at H
      obtain ⟨rfl, rfl⟩ := H
      go_enter Tryd.func11, Tryd.ntmps11
      go_wp2_with (first | ((with_reducible refine gate_callee (f := 23) rfl ?_); refine goesL_ (some 8) rfl rfl Tryd.func23 (by kernel_rfl) rfl #[.string a0] rfl (by (try simp only [List.map_toArray, List.map_cons, List.map_nil]); first | done | rfl | (simp only [List.length_drop, List.length_take]; rfl)) ?_; (with_reducible refine (spec_miGood.calls k a0 true _ A3.out).mono ?_); rintro e w' ⟨rfl, ⟨nd, rfl⟩⟩; refine ⟨_, rfl, ?_⟩) | (go_at_call 24; (with_reducible refine (spec_miKind.calls k a1 false _ A5.out).mono ?_); rintro e w10 ⟨rfl, hb⟩; have n0_ := Aside0.mk (below_step (by repeat (first | (with_reducible first | exact HB.out | apply below_alloc | apply pw_below_drewN | apply below_drew1) | exact HB.out)) hb); clear HB; have HB := n0_; clear n0_; (try clear hb); (try clear hb2); (try clear hk); (try clear hi)))
      go_ret2
      exact ⟨by first | rfl | (simp [errW_none, errW_some] <;> rfl) | (simp [errW_none, errW_some] <;> (generalize t103.toList = l11_; cases l11_ <;> rfl)) | (simp [*, errW_none, errW_some] <;> rfl), by repeat (first | (with_reducible first | exact HB.out | apply below_alloc | apply pw_below_drewN | apply below_drew1) | exact HB.out)⟩
  · replace c4 := Bool.eq_false_iff.mpr c4
    subst c4
    have H1 : (some ((⟨#[]⟩ : ByteArray), false)) = some (r1, r2) := by rw [if_neg (show ¬ (false = true) by decide)] at H; exact H
    clear H
    have H := H1
    clear H1
    simp only [Option.some.injEq, Prod.mk.injEq] at H
    obtain ⟨rfl, rfl⟩ := H
    go_enter Tryd.func11, Tryd.ntmps11
    go_wp2_with (first | ((with_reducible refine gate_callee (f := 23) rfl ?_); refine goesL_ (some 8) rfl rfl Tryd.func23 (by kernel_rfl) rfl #[.string a0] rfl (by (try simp only [List.map_toArray, List.map_cons, List.map_nil]); first | done | rfl | (simp only [List.length_drop, List.length_take]; rfl)) ?_; (with_reducible refine (spec_miGood.calls k a0 false _ A3.out).mono ?_); rintro e w' ⟨rfl, ⟨nd, rfl⟩⟩; refine ⟨_, rfl, ?_⟩))
    go_ret2
    exact ⟨by first | rfl | (simp [errW_none, errW_some] <;> rfl) | (simp [errW_none, errW_some] <;> (generalize t103.toList = l11_; cases l11_ <;> rfl)) | (simp [*, errW_none, errW_some] <;> rfl), by repeat (first | (with_reducible first | exact HB.out | apply below_alloc | apply pw_below_drewN | apply below_drew1) | exact HB.out)⟩

end Go.Proofs.YtpdcjkiejglaiaaDoor.Q

/- Laid by a program of this session (wip/tools/own_print.py) over the translation of this seat: contracts of the functions that the statement reaches. -/
namespace Go.Proofs.YtpdcjkiejglaiaaDoor.Q
open Go.RowKit Go.Proofs.YtpdcjkiejglaiaaDoorW.PrintWords Go.Proofs.YtpdcjkiejglaiaaDoorW.PrintLast Go.Proofs.YtpdcjkiejglaiaaDoorW.PrintMore
attribute [local go_sem] max2_int min2_int max_two min_two max_three min_three max_four min_four   -- for this text's walks alone
set_option linter.unusedVariables false
set_option linter.unusedSimpArgs false

/-! ### spec_MilesToKind: function 13 -/
def spec_MilesToKind.f (k : Nat) (a0 : ByteArray) (a1 : ByteArray) : Option (Int × Bool) := (spec_NextOfKind.f k a0 a1).bind fun bt101 => (if bt101.2 = true then ((spec_miTo.f k a0 bt101.1).bind fun t103 => (if t103 = 0 then ((spec_miAll.f k (a0.size : Int)).bind fun t104 => (some (t104, true))) else (some (t103, true)))) else (some (0, false)))
theorem spec_MilesToKind.mono : ∀ a0 a1 k, LeO (spec_MilesToKind.f k a0 a1) (spec_MilesToKind.f (k + 1) a0 a1) := by
  intro a0 a1 k
  unfold spec_MilesToKind.f
  repeat' first
      | (with_reducible exact spec_NextOfKind.mono _ _ _)
      | (with_reducible exact spec_miAll.mono _ _)
      | (with_reducible exact spec_miTo.mono _ _ _)
      | (with_reducible exact LeO.refl _)
      | (with_reducible exact LeO.none _)
      | (with_reducible refine LeO.ite ?_ ?_)
      | (with_reducible refine LeO.bind ?_ (fun _ => ?_))
      | exact spec_NextOfKind.mono _ _ _
      | exact spec_miAll.mono _ _
      | exact spec_miTo.mono _ _ _
      | exact LeO.none _
      | refine LeO.ite ?_ ?_
      | refine LeO.bind ?_ (fun _ => ?_)
set_option maxHeartbeats 8000000 in
set_option maxRecDepth 100000 in
theorem spec_MilesToKind.calls (k : Nat) (a0 : ByteArray) (a1 : ByteArray) (r1 : Int) (r2 : Bool) (w : World) (h : spec_MilesToKind.f k a0 a1 = some (r1, r2)) :
    Calls Tryd.prog 13 #[.string a0, .string a1] w fun e w' => e = .returned (.tuple #[.int .i64 r1, .bool r2]) ∧ Below w.heap.size w w' := by
  have HB := Aside0.mk (Below.refl w.heap.size w)
  have H : ((spec_NextOfKind.f k a0 a1).bind fun bt101 => (if bt101.2 = true then ((spec_miTo.f k a0 bt101.1).bind fun t103 => (if t103 = 0 then ((spec_miAll.f k (a0.size : Int)).bind fun t104 => (some (t104, true))) else (some (t103, true)))) else (some (0, false)))) = some (r1, r2) := h
  clear h
  replace H := Option.bind_eq_some_iff.mp H
  obtain ⟨⟨t101, t102⟩, A30, H⟩ := H
  replace H : (if t102 = true then ((spec_miTo.f k a0 t101).bind fun t103 => (if t103 = 0 then ((spec_miAll.f k (a0.size : Int)).bind fun t104 => (some (t104, true))) else (some (t103, true)))) else (some (0, false))) = some (r1, r2) := H
  have A3 := Aside0.mk A30
  clear A30
  by_cases c4 : t102 = true
  · subst c4
    have H1 : ((spec_miTo.f k a0 t101).bind fun t103 => (if t103 = 0 then ((spec_miAll.f k (a0.size : Int)).bind fun t104 => (some (t104, true))) else (some (t103, true)))) = some (r1, r2) := by rw [if_pos rfl] at H; exact H
    clear H
    have H := H1
    clear H1
    replace H := Option.bind_eq_some_iff.mp H
    obtain ⟨t103, A50, H⟩ := H
    replace H : (if t103 = 0 then ((spec_miAll.f k (a0.size : Int)).bind fun t104 => (some (t104, true))) else (some (t103, true))) = some (r1, r2) := H
    have A5 := Aside0.mk A50
    clear A50
    by_cases c6 : t103 = 0
    · rw [if_pos c6] at H
      have c6b0 : (t103 == 0) = true := beq_iff_eq.mpr c6
      have c6b1 : (t103 != 0) = false := bne_eq_false_iff_eq.mpr c6
      clear c6
      replace H := Option.bind_eq_some_iff.mp H
      obtain ⟨t104, A70, H⟩ := H
      replace H : (some (t104, true)) = some (r1, r2) := H
      have A7 := Aside0.mk A70
      clear A70
      simp only [Option.some.injEq, Prod.mk.injEq] at H
      obtain ⟨rfl, rfl⟩ := H
      go_enter Tryd.func13, Tryd.ntmps13
      go_wp2_with (first | ((with_reducible refine gate_callee (f := 11) rfl ?_); refine goesL_ (some 12) rfl rfl Tryd.func11 (by kernel_rfl) rfl #[.string a0, .string a1] rfl (by (try simp only [List.map_toArray, List.map_cons, List.map_nil]); first | done | rfl | (simp only [List.length_drop, List.length_take]; rfl)) ?_; (with_reducible refine (spec_NextOfKind.calls k a0 a1 t101 true _ A3.out).mono ?_); rintro e w8 ⟨rfl, hb⟩; refine ⟨_, rfl, ?_⟩; have n0_ := Aside0.mk (below_step (by repeat (first | (with_reducible first | exact HB.out | apply below_alloc | apply pw_below_drewN | apply below_drew1) | exact HB.out)) hb); clear HB; have HB := n0_; clear n0_; (try clear hb); (try clear hb2); (try clear hk); (try clear hi)) | ((with_reducible refine gate_callee (f := 31) rfl ?_); refine goesL_ (some 19) rfl rfl Tryd.func31 (by kernel_rfl) rfl #[.string a0, .string t101] rfl (by (try simp only [List.map_toArray, List.map_cons, List.map_nil]); first | done | rfl | (simp only [List.length_drop, List.length_take]; rfl)) ?_; (with_reducible refine (spec_miTo.calls k a0 t101 t103 _ A5.out).mono ?_); rintro e w' ⟨rfl, ⟨nd, rfl⟩⟩; refine ⟨_, rfl, ?_⟩) | ((with_reducible refine gate_callee (f := 32) rfl ?_); refine goesL_ (some 24) rfl rfl Tryd.func32 (by kernel_rfl) rfl #[.int .i64 (a0.size : Int)] rfl (by (try simp only [List.map_toArray, List.map_cons, List.map_nil]); first | done | rfl | (simp only [List.length_drop, List.length_take]; rfl)) ?_; (with_reducible refine (spec_miAll.calls k (a0.size : Int) t104 _ A7.out).mono ?_); rintro e w' ⟨rfl, ⟨nd, rfl⟩⟩; refine ⟨_, rfl, ?_⟩))
      go_ret2
      exact ⟨by first | rfl | (simp [errW_none, errW_some] <;> rfl) | (simp [*, errW_none, errW_some] <;> rfl), by repeat (first | (with_reducible first | exact HB.out | apply below_alloc | apply pw_below_drewN | apply below_drew1) | exact HB.out)⟩
    · rw [if_neg c6] at H
      have c6b0 : (t103 == 0) = false := beq_eq_false_iff_ne.mpr c6
      have c6b1 : (t103 != 0) = true := bne_iff_ne.mpr c6
      simp only [Option.some.injEq, Prod.mk.injEq] at H
      obtain ⟨rfl, rfl⟩ := H
      go_enter Tryd.func13, Tryd.ntmps13
      go_wp2_with (first | ((with_reducible refine gate_callee (f := 11) rfl ?_); refine goesL_ (some 12) rfl rfl Tryd.func11 (by kernel_rfl) rfl #[.string a0, .string a1] rfl (by (try simp only [List.map_toArray, List.map_cons, List.map_nil]); first | done | rfl | (simp only [List.length_drop, List.length_take]; rfl)) ?_; (with_reducible refine (spec_NextOfKind.calls k a0 a1 t101 true _ A3.out).mono ?_); rintro e w9 ⟨rfl, hb⟩; refine ⟨_, rfl, ?_⟩; have n0_ := Aside0.mk (below_step (by repeat (first | (with_reducible first | exact HB.out | apply below_alloc | apply pw_below_drewN | apply below_drew1) | exact HB.out)) hb); clear HB; have HB := n0_; clear n0_; (try clear hb); (try clear hb2); (try clear hk); (try clear hi)) | ((with_reducible refine gate_callee (f := 31) rfl ?_); refine goesL_ (some 19) rfl rfl Tryd.func31 (by kernel_rfl) rfl #[.string a0, .string t101] rfl (by (try simp only [List.map_toArray, List.map_cons, List.map_nil]); first | done | rfl | (simp only [List.length_drop, List.length_take]; rfl)) ?_; (with_reducible refine (spec_miTo.calls k a0 t101 t103 _ A5.out).mono ?_); rintro e w' ⟨rfl, ⟨nd, rfl⟩⟩; refine ⟨_, rfl, ?_⟩))
      go_ret2
      exact ⟨by first | rfl | (simp [errW_none, errW_some] <;> rfl) | (simp [*, errW_none, errW_some] <;> rfl), by repeat (first | (with_reducible first | exact HB.out | apply below_alloc | apply pw_below_drewN | apply below_drew1) | exact HB.out)⟩
  · replace c4 := Bool.eq_false_iff.mpr c4
    subst c4
    have H1 : (some (0, false)) = some (r1, r2) := by rw [if_neg (show ¬ (false = true) by decide)] at H; exact H
    clear H
    have H := H1
    clear H1
    simp only [Option.some.injEq, Prod.mk.injEq] at H
    obtain ⟨rfl, rfl⟩ := H
    go_enter Tryd.func13, Tryd.ntmps13
    go_wp2_with (first | ((with_reducible refine gate_callee (f := 11) rfl ?_); refine goesL_ (some 12) rfl rfl Tryd.func11 (by kernel_rfl) rfl #[.string a0, .string a1] rfl (by (try simp only [List.map_toArray, List.map_cons, List.map_nil]); first | done | rfl | (simp only [List.length_drop, List.length_take]; rfl)) ?_; (with_reducible refine (spec_NextOfKind.calls k a0 a1 t101 false _ A3.out).mono ?_); rintro e w10 ⟨rfl, hb⟩; refine ⟨_, rfl, ?_⟩; have n0_ := Aside0.mk (below_step (by repeat (first | (with_reducible first | exact HB.out | apply below_alloc | apply pw_below_drewN | apply below_drew1) | exact HB.out)) hb); clear HB; have HB := n0_; clear n0_; (try clear hb); (try clear hb2); (try clear hk); (try clear hi)))
    go_ret2
    exact ⟨by first | rfl | (simp [errW_none, errW_some] <;> rfl) | (simp [*, errW_none, errW_some] <;> rfl), by repeat (first | (with_reducible first | exact HB.out | apply below_alloc | apply pw_below_drewN | apply below_drew1) | exact HB.out)⟩

end Go.Proofs.YtpdcjkiejglaiaaDoor.Q

/-
  The reference's test of a beginning: it never turns away the beginning of a reading of the kind, and a whole reading passes just if it is of the kind.
-/
namespace Go.Proofs.YtpdcjkiejglaiaaDoor.Q
open Go.RowKit Go.Proofs.YtpdcjkiejglaiaaDoorW.PrintWords Go.Proofs.YtpdcjkiejglaiaaDoorW.PrintLast Go.Proofs.YtpdcjkiejglaiaaDoorW.PrintMore
set_option linter.unusedVariables false
set_option linter.unusedSimpArgs false

theorem one_eq (s : ByteArray) (i j : Nat) (hi : i < s.size) (hj : j < s.size) : (s.extract i (i + 1)).toList = (s.extract j (j + 1)).toList ↔ bt s i = bt s j := by
  rw [toList_li, li_one s i hi, li_one s j hj]
  simp
def canM (n : Nat) (p : ByteArray) (j : Nat) : Bool := decide (¬ n - 1 - j < p.size) || (bt p ((n - 1 - j : Nat) : Int) == bt p j)
def canU (n : Nat) (p : ByteArray) (j : Nat) : Bool := up (bt p j) != 0 && (decide (¬ 2 * j + 1 = n) || (up (bt p j) == bt p j)) && (decide (¬ n - 1 - j < p.size) || (bt p ((n - 1 - j : Nat) : Int) == up (bt p j)))
theorem ne117 : ¬ ([109] : List UInt8) = [117] := by decide

theorem can_m (n : Nat) (p : ByteArray) (h9 : n ≤ 9) (hp : p.size < n) : Ev (fun k => spec_miCan.l0 k (n : Int) p (kt 109) (p.size : Int) 0) (allF (canM n p) p.size 0) := by
  have stop : Ev (fun k => spec_miCan.l0 k (n : Int) p (kt 109) (p.size : Int) ((p.size : Nat) : Int)) true := by
    refine Ev.step (f := fun _ => some true) (fun k => ?_) (Ev.now _)
    simp only [spec_miCan.l0]
    rw [if_neg (by omega)]
  have body : ∀ j : Nat, j < p.size → ∀ k, spec_miCan.l0 (k + 1) (n : Int) p (kt 109) (p.size : Int) (j : Int) = if n - 1 - j < p.size then (if bt p ((n - 1 - j : Nat) : Int) = bt p j then spec_miCan.l0 k (n : Int) p (kt 109) (p.size : Int) ((j + 1 : Nat) : Int) else some false) else spec_miCan.l0 k (n : Int) p (kt 109) (p.size : Int) ((j + 1 : Nat) : Int) := by
    intro j hj k
    have e1 : wrap64 ((j : Int) + 1) = ((j + 1 : Nat) : Int) := by rw [wrap_id (by omega) (by omega)]; rfl
    have e2 : wrap64 (wrap64 ((n : Int) - 1) - (j : Int)) = ((n - 1 - j : Nat) : Int) := by rw [wrap_id (i := (n : Int) - 1) (by omega) (by omega), wrap_id (by omega) (by omega)]; omega
    have e3 : wrap64 (((n - 1 - j : Nat) : Int) + 1) = ((n - 1 - j + 1 : Nat) : Int) := by rw [wrap_id (by omega) (by omega)]; rfl
    simp only [spec_miCan.l0, kt_toList, e1, e2, e3, ne117, if_false, Int.toNat_natCast]
    clear e1 e2 e3
    rw [if_pos (by omega), if_pos (by omega), if_pos (by omega), if_pos (by omega)]
    by_cases c : n - 1 - j < p.size
    · rw [if_pos c, if_pos (by omega), if_pos (by omega), if_pos (by omega), if_pos (by omega)]
      by_cases d : bt p ((n - 1 - j : Nat) : Int) = bt p j
      · rw [if_pos d, if_pos ((one_eq p _ _ c hj).2 d)]
      · rw [if_neg d, if_neg (fun h => d ((one_eq p _ _ c hj).1 h))]
    · rw [if_neg c, if_neg (by omega)]
  refine Ev.eq (Ev_all (l := fun k j => spec_miCan.l0 k (n : Int) p (kt 109) (p.size : Int) (j : Int)) (p := canM n p) (n := p.size) stop ?_ ?_ p.size 0 (by omega)) (by simp)
  · intro i hi hq q hh
    simp only [canM, Bool.or_eq_true, decide_eq_true_eq, beq_iff_eq] at hq
    refine Ev.step (fun k => ?_) hh
    rw [body i hi k]
    by_cases c : n - 1 - i < p.size
    · rw [if_pos c, if_pos (hq.resolve_left (fun h => h c))]
    · rw [if_neg c]
  · intro i hi hq
    simp only [canM, Bool.or_eq_false_iff, decide_eq_false_iff_not, beq_eq_false_iff_ne] at hq
    refine Ev.step (f := fun _ => some false) (fun k => ?_) (Ev.now _)
    rw [body i hi k, if_pos (Classical.not_not.1 hq.1), if_neg hq.2]

theorem can_u (n : Nat) (p : ByteArray) (h9 : n ≤ 9) (hp : p.size < n) : Ev (fun k => spec_miCan.l0 k (n : Int) p (kt 117) (p.size : Int) 0) (allF (canU n p) p.size 0) := by
  have stop : Ev (fun k => spec_miCan.l0 k (n : Int) p (kt 117) (p.size : Int) ((p.size : Nat) : Int)) true := by
    refine Ev.step (f := fun _ => some true) (fun k => ?_) (Ev.now _)
    simp only [spec_miCan.l0]
    rw [if_neg (by omega)]
  have jbody : ∀ j : Nat, j < p.size → ∀ (t : ByteArray), li t = [up (bt p j)] → ∀ k, spec_miCan.j1 (k + 1) (n : Int) p (kt 117) (p.size : Int) (j : Int) t false = if n - 1 - j < p.size then (if bt p ((n - 1 - j : Nat) : Int) = up (bt p j) then spec_miCan.l0 k (n : Int) p (kt 117) (p.size : Int) ((j + 1 : Nat) : Int) else some false) else spec_miCan.l0 k (n : Int) p (kt 117) (p.size : Int) ((j + 1 : Nat) : Int) := by
    intro j hj t ht k
    have e1 : wrap64 ((j : Int) + 1) = ((j + 1 : Nat) : Int) := by rw [wrap_id (by omega) (by omega)]; rfl
    have e2 : wrap64 (wrap64 ((n : Int) - 1) - (j : Int)) = ((n - 1 - j : Nat) : Int) := by rw [wrap_id (i := (n : Int) - 1) (by omega) (by omega), wrap_id (by omega) (by omega)]; omega
    have e3 : wrap64 (((n - 1 - j : Nat) : Int) + 1) = ((n - 1 - j + 1 : Nat) : Int) := by rw [wrap_id (by omega) (by omega)]; rfl
    simp only [spec_miCan.j1, e1, e2, e3, Int.toNat_natCast, Bool.false_eq_true, if_false]
    clear e1 e2 e3
    by_cases c : n - 1 - j < p.size
    · rw [if_pos c, if_pos (by omega), if_pos (by omega), if_pos (by omega), if_pos (by omega)]
      have he : (p.extract (n - 1 - j) (n - 1 - j + 1)).toList = t.toList ↔ bt p ((n - 1 - j : Nat) : Int) = up (bt p j) := by
        rw [toList_li, li_one p _ c, ht]
        simp
      by_cases d : bt p ((n - 1 - j : Nat) : Int) = up (bt p j)
      · rw [if_pos d, if_pos (he.2 d)]
      · rw [if_neg d, if_neg (fun h => d (he.1 h))]
    · rw [if_neg c, if_neg (by omega)]
  have body : ∀ j : Nat, j < p.size → ∀ k, spec_miCan.l0 (k + 1) (n : Int) p (kt 117) (p.size : Int) (j : Int) = ((spec_miUpside.f k (p.extract j (j + 1))).bind fun bt106 => (if bt106.2 = true then (if 2 * j + 1 = n then (spec_miCan.j1 k (n : Int) p (kt 117) (p.size : Int) (j : Int) bt106.1 (bt106.1.toList != (p.extract j (j + 1)).toList)) else (spec_miCan.j1 k (n : Int) p (kt 117) (p.size : Int) (j : Int) bt106.1 false)) else (spec_miCan.j1 k (n : Int) p (kt 117) (p.size : Int) (j : Int) bt106.1 true))) := by
    intro j hj k
    have e1 : wrap64 ((j : Int) + 1) = ((j + 1 : Nat) : Int) := by rw [wrap_id (by omega) (by omega)]; rfl
    have e2 : (wrap64 (wrap64 (2 * (j : Int)) + 1) = (n : Int)) ↔ 2 * j + 1 = n := by rw [wrap_id (i := 2 * (j : Int)) (by omega) (by omega), wrap_id (by omega) (by omega)]; omega
    simp only [spec_miCan.l0, kt_toList, e1, e2, if_true, Int.toNat_natCast]
    clear e1 e2
    rw [if_pos (by omega), if_pos (by omega), if_pos (by omega), if_pos (by omega)]
  have ups : ∀ j : Nat, j < p.size → ∃ t b, Ev (fun k => spec_miUpside.f k (p.extract j (j + 1))) (t, b) ∧ (b = true ↔ up (bt p j) ≠ 0) ∧ (b = true → li t = [up (bt p j)]) := by
    intro j hj
    obtain ⟨t, b, ht, h2, h3, _⟩ := miUpside_ev (p.extract j (j + 1)) (by rw [ByteArray.size_extract]; omega)
    have hl := li_one p j hj
    have hz : (p.extract j (j + 1)).size = 1 := by rw [ByteArray.size_extract]; omega
    have hb : bt (p.extract j (j + 1)) ((0 : Nat) : Int) = bt p j := by rw [bt_li, hl]; rfl
    refine ⟨t, b, ht, ?_, fun hh => by rw [h3 hh, hl]; rfl⟩
    rw [h2, hz]
    constructor
    · intro h; have := h 0 (by omega); rwa [hb] at this
    · intro h i hi
      obtain rfl : i = 0 := by omega
      rwa [hb]
  have refuse : ∀ (j : Nat) (t : ByteArray), Ev (fun k => spec_miCan.j1 k (n : Int) p (kt 117) (p.size : Int) (j : Int) t true) false := fun j t => Ev.step (f := fun _ => some false) (fun k => by simp only [spec_miCan.j1]; rw [if_true]) (Ev.now _)
  refine Ev.eq (Ev_all (l := fun k j => spec_miCan.l0 k (n : Int) p (kt 117) (p.size : Int) (j : Int)) (p := canU n p) (n := p.size) stop ?_ ?_ p.size 0 (by omega)) (by simp)
  · intro i hi hq q hh
    simp only [canU, Bool.and_eq_true, Bool.or_eq_true, decide_eq_true_eq, beq_iff_eq, bne_iff_ne] at hq
    obtain ⟨⟨h1, h2⟩, h3⟩ := hq
    obtain ⟨t, b, ht, hb, hl⟩ := ups i hi
    have hbt := hb.2 h1
    have go : Ev (fun k => spec_miCan.j1 k (n : Int) p (kt 117) (p.size : Int) (i : Int) t false) q := by
      refine Ev.step (fun k => ?_) hh
      rw [jbody i hi t (hl hbt) k]
      by_cases c : n - 1 - i < p.size
      · rw [if_pos c, if_pos (h3.resolve_left (fun h => h c))]
      · rw [if_neg c]
    refine Ev.step (body i hi) (Ev.bind' ht (Ev.pos hbt ?_))
    by_cases d : 2 * i + 1 = n
    · refine Ev.pos d ?_
      have : (t.toList != (p.extract i (i + 1)).toList) = false := by
        rw [bne_eq_false_iff_eq, toList_li, hl hbt, li_one p i hi]
        rcases h2 with h | h
        · exact absurd d h
        · rw [h]
      rw [this]
      exact go
    · exact Ev.neg d go
  · intro i hi hq
    obtain ⟨t, b, ht, hb, hl⟩ := ups i hi
    refine Ev.step (body i hi) (Ev.bind' ht ?_)
    by_cases hbt : b = true
    · refine Ev.pos hbt ?_
      have h1 := hb.1 hbt
      have stay : (n - 1 - i < p.size ∧ ¬ bt p ((n - 1 - i : Nat) : Int) = up (bt p i)) → Ev (fun k => spec_miCan.j1 k (n : Int) p (kt 117) (p.size : Int) (i : Int) t false) false := by
        intro h
        refine Ev.step (f := fun _ => some false) (fun k => ?_) (Ev.now _)
        rw [jbody i hi t (hl hbt) k, if_pos h.1, if_neg h.2]
      have hq' : (2 * i + 1 = n ∧ ¬ up (bt p i) = bt p i) ∨ (n - 1 - i < p.size ∧ ¬ bt p ((n - 1 - i : Nat) : Int) = up (bt p i)) := by
        apply Classical.byContradiction
        intro hx
        have : canU n p i = true := by
          simp only [canU, Bool.and_eq_true, Bool.or_eq_true, decide_eq_true_eq, beq_iff_eq, bne_iff_ne]
          refine ⟨⟨h1, ?_⟩, ?_⟩
          · by_cases c : 2 * i + 1 = n
            · right; exact Classical.byContradiction fun h => hx (.inl ⟨c, h⟩)
            · exact .inl c
          · by_cases c : n - 1 - i < p.size
            · right; exact Classical.byContradiction fun h => hx (.inr ⟨c, h⟩)
            · exact .inl c
        rw [this] at hq; cases hq
      by_cases d : 2 * i + 1 = n
      · refine Ev.pos d ?_
        by_cases e : up (bt p i) = bt p i
        · have : (t.toList != (p.extract i (i + 1)).toList) = false := by rw [bne_eq_false_iff_eq, toList_li, hl hbt, li_one p i hi, e]
          rw [this]
          rcases hq' with h | h
          · exact absurd e h.2
          · exact stay h
        · have : (t.toList != (p.extract i (i + 1)).toList) = true := by
            rw [bne_iff_ne]
            intro h
            rw [toList_li, hl hbt, li_one p i hi] at h
            exact e (by simpa using h)
          rw [this]
          exact refuse i t
      · refine Ev.neg d ?_
        rcases hq' with h | h
        · exact absurd h.1 d
        · exact stay h
    · exact Ev.neg hbt (refuse i t)

end Go.Proofs.YtpdcjkiejglaiaaDoor.Q

/-
  The reference's test of a beginning, all six kinds.
-/
namespace Go.Proofs.YtpdcjkiejglaiaaDoor.Q
open Go.RowKit Go.Proofs.YtpdcjkiejglaiaaDoorW.PrintWords Go.Proofs.YtpdcjkiejglaiaaDoorW.PrintLast Go.Proofs.YtpdcjkiejglaiaaDoorW.PrintMore
set_option linter.unusedVariables false
set_option linter.unusedSimpArgs false

theorem can_ev (c : UInt8) (hc : isLetter c) (n i v : Nat) (h1 : 1 ≤ n) (h9 : n ≤ 9) (hi : i ≤ n) (hv : v < 10 ^ i) :
    ∃ b, Ev (fun k => spec_miCan.f k (n : Int) (tx i v) (kt c)) b ∧ (i = n → b = K (c.toNat : Int) n v) ∧
      ((∃ m, m / 10 ^ (n - i) = v ∧ K (c.toNat : Int) n m = true) → b = true) := by
  have hz := tx_size i v
  have hd := tx_dig i v
  have ne : ∀ {a b : UInt8}, a ≠ b → ¬ ([a] : List UInt8) = [b] := fun h e => h (by simpa using e)
  unfold spec_miCan.f
  simp only [kt_toList]
  by_cases hin : i = n
  · subst hin
    refine ⟨K (c.toNat : Int) i v, Ev.pos (by rw [hz]) (Ev.bind' (miIs_ev c hc _ (by omega) (by omega) hd) (Ev.eq (Ev.now _) (by unfold K; rw [hz]))), fun _ => rfl, ?_⟩
    rintro ⟨m, hm, hk⟩
    rw [Nat.sub_self, Nat.pow_zero, Nat.div_one] at hm
    rw [← hm]; exact hk
  · have hlt : i < n := by omega
    have hs : ¬ ((tx i v).size : Int) = (n : Int) := by rw [hz]; omega
    have pb : ∀ m j, m / 10 ^ (n - i) = v → j < i → bt (tx n m) j = bt (tx i v) j := fun m j hm hj => by rw [pre_bt n i m j hi hj, hm]
    -- what it is to be of the kind
    have cl : ∀ (g : Bool) , (∃ b, Ev (fun k => if ([c] : List UInt8) = ([97] : List UInt8) then ((spec_miDigits.f (tx i v)).bind fun t102 => (some (decide (t102 ≤ 1)))) else (if ([c] : List UInt8) = ([100] : List UInt8) then ((spec_miDigits.f (tx i v)).bind fun t103 => (some (t103 == ((tx i v).size : Int)))) else (if ([c] : List UInt8) = ([114] : List UInt8) then ((spec_miIs.f k (tx i v) (⟨#[114]⟩ : ByteArray)).bind fun t104 => (if t104 = true then (if ((tx i v).size : Int) = 0 then (some true) else (if 0 ≤ (wrap64 (((tx i v).size : Int) - 1)) then (if (wrap64 (((tx i v).size : Int) - 1)) < ((tx i v).size : Int) then (some (decide (((57 - (bt (tx i v) (wrap64 (((tx i v).size : Int) - 1)))) % 256) ≥ (wrap64 ((n : Int) - ((tx i v).size : Int)))))) else (none)) else (none))) else (some false))) else (if ([c] : List UInt8) = ([102] : List UInt8) then ((spec_miIs.f k (tx i v) (⟨#[102]⟩ : ByteArray)).bind fun t105 => (if t105 = true then (if ((tx i v).size : Int) = 0 then (some true) else (if 0 ≤ (wrap64 (((tx i v).size : Int) - 1)) then (if (wrap64 (((tx i v).size : Int) - 1)) < ((tx i v).size : Int) then (some (decide ((((bt (tx i v) (wrap64 (((tx i v).size : Int) - 1))) - 48) % 256) ≥ (wrap64 ((n : Int) - ((tx i v).size : Int)))))) else (none)) else (none))) else (some false))) else (spec_miCan.l0 k (n : Int) (tx i v) (kt c) ((tx i v).size : Int) 0))))) b ∧ ((∃ m, m / 10 ^ (n - i) = v ∧ K (c.toNat : Int) n m = true) → b = true)) →
        ∃ b, Ev (fun k => if ((tx i v).size : Int) = (n : Int) then ((spec_miIs.f k (tx i v) (kt c)).bind fun t101 => (some t101)) else (if ([c] : List UInt8) = ([97] : List UInt8) then ((spec_miDigits.f (tx i v)).bind fun t102 => (some (decide (t102 ≤ 1)))) else (if ([c] : List UInt8) = ([100] : List UInt8) then ((spec_miDigits.f (tx i v)).bind fun t103 => (some (t103 == ((tx i v).size : Int)))) else (if ([c] : List UInt8) = ([114] : List UInt8) then ((spec_miIs.f k (tx i v) (⟨#[114]⟩ : ByteArray)).bind fun t104 => (if t104 = true then (if ((tx i v).size : Int) = 0 then (some true) else (if 0 ≤ (wrap64 (((tx i v).size : Int) - 1)) then (if (wrap64 (((tx i v).size : Int) - 1)) < ((tx i v).size : Int) then (some (decide (((57 - (bt (tx i v) (wrap64 (((tx i v).size : Int) - 1)))) % 256) ≥ (wrap64 ((n : Int) - ((tx i v).size : Int)))))) else (none)) else (none))) else (some false))) else (if ([c] : List UInt8) = ([102] : List UInt8) then ((spec_miIs.f k (tx i v) (⟨#[102]⟩ : ByteArray)).bind fun t105 => (if t105 = true then (if ((tx i v).size : Int) = 0 then (some true) else (if 0 ≤ (wrap64 (((tx i v).size : Int) - 1)) then (if (wrap64 (((tx i v).size : Int) - 1)) < ((tx i v).size : Int) then (some (decide ((((bt (tx i v) (wrap64 (((tx i v).size : Int) - 1))) - 48) % 256) ≥ (wrap64 ((n : Int) - ((tx i v).size : Int)))))) else (none)) else (none))) else (some false))) else (spec_miCan.l0 k (n : Int) (tx i v) (kt c) ((tx i v).size : Int) 0)))))) b ∧ (i = n → b = K (c.toNat : Int) n v) ∧ ((∃ m, m / 10 ^ (n - i) = v ∧ K (c.toNat : Int) n m = true) → b = true) := by
      rintro g ⟨b, hb, hk⟩
      exact ⟨b, Ev.neg hs hb, fun h => absurd h hin, hk⟩
    refine cl true ?_
    clear cl
    rcases hc with rfl | rfl | rfl | rfl | rfl | rfl
    · -- all alike
      have hmd := miDigits_dig (s := tx i v) (by omega) hd
      refine ⟨_, Ev.pos rfl (Ev.some_of fun k => by rw [hmd]; rfl), ?_⟩
      rintro ⟨m, hm, hk⟩
      rw [decide_eq_true_eq, hz]
      by_cases h0 : i = 0
      · subst h0; show (0 : Int) ≤ 1; omega
      · have hka := kind_a (tx i v) (by omega)
        rw [hz] at hka
        have : allF (mayAt 97 (tx i v) i) i 0 = true := by
          rw [allF_iff]
          intro j _ hj
          have := (K_iff _ _ _).1 hk j (by omega)
          have e : ∀ (s : ByteArray) (q : Nat), (mayAt 97 s q j = true ↔ bt s j = bt s ((0 : Nat) : Int)) := fun s q => by simp [mayAt]
          rw [show (((97 : UInt8).toNat : Nat) : Int) = 97 from rfl] at this
          rw [e] at this ⊢
          rw [← pb m j hm (by omega), ← pb m 0 hm (by omega)]
          exact this
        rw [this, beq_iff_eq] at hka
        omega
    · -- mirrored
      refine ⟨_, Ev.neg (ne (by decide)) (Ev.neg (ne (by decide)) (Ev.neg (ne (by decide)) (Ev.neg (ne (by decide)) (can_m n (tx i v) h9 (by omega))))), ?_⟩
      rintro ⟨m, hm, hk⟩
      rw [hz, allF_iff]
      intro j _ hj
      have e : ∀ j, (mayAt 109 (tx n m) n j = true ↔ j < n - 1 - j ∨ bt (tx n m) ((n - 1 - j : Nat) : Int) = bt (tx n m) j) := fun j => by simp [mayAt]
      simp only [canM, Bool.or_eq_true, decide_eq_true_eq, beq_iff_eq, hz]
      by_cases c : n - 1 - j < i
      · right
        rw [← pb m j hm (by omega), ← pb m _ hm c]
        by_cases d : j < n - 1 - j
        · have := (e (n - 1 - j)).1 ((K_iff _ _ _).1 hk _ (by omega))
          rw [show n - 1 - (n - 1 - j) = j by omega] at this
          rcases this with h | h
          · omega
          · exact h.symm
        · rcases (e j).1 ((K_iff _ _ _).1 hk j (by omega)) with h | h
          · exact absurd h d
          · exact h
      · exact .inl c
    · -- upside down
      refine ⟨_, Ev.neg (ne (by decide)) (Ev.neg (ne (by decide)) (Ev.neg (ne (by decide)) (Ev.neg (ne (by decide)) (can_u n (tx i v) h9 (by omega))))), ?_⟩
      rintro ⟨m, hm, hk⟩
      rw [hz, allF_iff]
      intro j _ hj
      have e : ∀ j, (mayAt 117 (tx n m) n j = true ↔ up (bt (tx n m) j) ≠ 0 ∧ (j < n - 1 - j ∨ bt (tx n m) ((n - 1 - j : Nat) : Int) = up (bt (tx n m) j))) := fun j => by simp [mayAt]
      have hj' := (e j).1 ((K_iff _ _ _).1 hk j (by omega))
      simp only [canU, Bool.and_eq_true, Bool.or_eq_true, decide_eq_true_eq, beq_iff_eq, bne_iff_ne, hz]
      rw [← pb m j hm (by omega)]
      refine ⟨⟨hj'.1, ?_⟩, ?_⟩
      · by_cases c : 2 * j + 1 = n
        · right
          rcases hj'.2 with h | h
          · omega
          · rw [show n - 1 - j = j by omega] at h; exact h.symm
        · exact .inl c
      · by_cases c : n - 1 - j < i
        · right
          rw [← pb m _ hm c]
          by_cases d : j < n - 1 - j
          · have := ((e (n - 1 - j)).1 ((K_iff _ _ _).1 hk _ (by omega)))
            rw [show n - 1 - (n - 1 - j) = j by omega] at this
            rcases this.2 with h | h
            · omega
            · rw [h, up_up this.1]
          · rcases hj'.2 with h | h
            · exact absurd h d
            · exact h
        · exact .inl c
    · -- rising
      have e : ∀ (m j : Nat), (mayAt 114 (tx n m) n j = true ↔ (j = 0 ∨ bt (tx n m) ((j - 1 : Nat) : Int) < bt (tx n m) j) ∧ bt (tx n m) j - 48 + ((n - 1 - j : Nat) : Int) ≤ 9) := fun m j => by simp [mayAt]
      refine ⟨if i = 0 then true else allF (riseAt (tx i v)) (i - 1) 1 && decide ((57 - (bt (tx i v) ((i - 1 : Nat) : Int))) % 256 ≥ ((n - i : Nat) : Int)), Ev.neg (ne (by decide)) (Ev.neg (ne (by decide)) (Ev.pos rfl ?_)), ?_⟩
      · by_cases h0 : i = 0
        · subst h0
          have : Ev (fun k => spec_miIs.f k (tx 0 v) (⟨#[114]⟩ : ByteArray)) true := by
            unfold spec_miIs.f
            have e0 : (⟨#[114]⟩ : ByteArray).toList = [114] := kt_toList 114
            simp only [e0]
            refine Ev.neg (ne (by decide)) (Ev.neg (ne (by decide)) (Ev.neg (ne (by decide)) (Ev.neg (ne (by decide)) ?_)))
            refine Ev.step (f := fun _ => some true) (fun k => ?_) (Ev.now _)
            simp only [spec_miIs.l0]
            rw [if_neg (by rw [hz]; omega)]
          exact Ev.bind' this (Ev.pos rfl (Ev.pos (by rw [hz]; rfl) (Ev.now _)))
        · rw [if_neg h0]
          have h2 := miIs_ev 114 (by simp [isLetter]) (tx i v) (by omega) (by omega) hd
          rw [show ((UInt8.toNat 114 : Nat) : Int) = 114 from rfl, ← kind_r _ (by omega) hd, hz] at h2
          refine Ev.bind' h2 ?_
          have w1 : wrap64 (((tx i v).size : Int) - 1) = ((i - 1 : Nat) : Int) := by rw [hz, wrap_id (by omega) (by omega)]; omega
          have w2 : wrap64 ((n : Int) - ((tx i v).size : Int)) = ((n - i : Nat) : Int) := by rw [hz, wrap_id (by omega) (by omega)]; omega
          rw [w1, w2, hz]
          by_cases hr : allF (riseAt (tx i v)) (i - 1) 1 = true
          · exact Ev.pos hr (Ev.neg (by omega) (Ev.pos (by omega) (Ev.pos (by omega) (Ev.eq (Ev.now _) (by rw [hr, Bool.true_and])))))
          · refine Ev.neg hr (Ev.eq (Ev.now _) ?_)
            rw [Bool.not_eq_true] at hr
            rw [hr, Bool.false_and]
      · rintro ⟨m, hm, hk⟩
        by_cases h0 : i = 0
        · rw [if_pos h0]
        · rw [if_neg h0, Bool.and_eq_true, allF_iff, decide_eq_true_eq]
          constructor
          · intro j hj1 hj2
            rcases ((e m j).1 ((K_iff _ _ _).1 hk j (by omega))).1 with h | h
            · omega
            · rw [riseAt, decide_eq_true_eq, ← pb m j hm (by omega), ← pb m _ hm (by omega)]
              exact h
          · have := ((e m (i - 1)).1 ((K_iff _ _ _).1 hk (i - 1) (by omega))).2
            rw [pb m _ hm (by omega)] at this
            have := hd (i - 1) (by omega)
            omega
    · -- falling
      have e : ∀ (m j : Nat), (mayAt 102 (tx n m) n j = true ↔ (j = 0 ∨ bt (tx n m) j < bt (tx n m) ((j - 1 : Nat) : Int)) ∧ ((n - 1 - j : Nat) : Int) ≤ bt (tx n m) j - 48) := fun m j => by simp [mayAt]
      refine ⟨if i = 0 then true else allF (fallAt (tx i v)) (i - 1) 1 && decide ((bt (tx i v) ((i - 1 : Nat) : Int) - 48) % 256 ≥ ((n - i : Nat) : Int)), Ev.neg (ne (by decide)) (Ev.neg (ne (by decide)) (Ev.neg (ne (by decide)) (Ev.pos rfl ?_))), ?_⟩
      · by_cases h0 : i = 0
        · subst h0
          have : Ev (fun k => spec_miIs.f k (tx 0 v) (⟨#[102]⟩ : ByteArray)) true := by
            unfold spec_miIs.f
            have e0 : (⟨#[102]⟩ : ByteArray).toList = [102] := kt_toList 102
            simp only [e0]
            refine Ev.neg (ne (by decide)) (Ev.neg (ne (by decide)) (Ev.neg (ne (by decide)) (Ev.neg (ne (by decide)) ?_)))
            refine Ev.step (f := fun _ => some true) (fun k => ?_) (Ev.now _)
            simp only [spec_miIs.l0]
            rw [if_neg (by rw [hz]; omega)]
          exact Ev.bind' this (Ev.pos rfl (Ev.pos (by rw [hz]; rfl) (Ev.now _)))
        · rw [if_neg h0]
          have h2 := miIs_ev 102 (by simp [isLetter]) (tx i v) (by omega) (by omega) hd
          rw [show ((UInt8.toNat 102 : Nat) : Int) = 102 from rfl, ← kind_f _ (by omega) hd, hz] at h2
          refine Ev.bind' h2 ?_
          have w1 : wrap64 (((tx i v).size : Int) - 1) = ((i - 1 : Nat) : Int) := by rw [hz, wrap_id (by omega) (by omega)]; omega
          have w2 : wrap64 ((n : Int) - ((tx i v).size : Int)) = ((n - i : Nat) : Int) := by rw [hz, wrap_id (by omega) (by omega)]; omega
          rw [w1, w2, hz]
          by_cases hr : allF (fallAt (tx i v)) (i - 1) 1 = true
          · exact Ev.pos hr (Ev.neg (by omega) (Ev.pos (by omega) (Ev.pos (by omega) (Ev.eq (Ev.now _) (by rw [hr, Bool.true_and])))))
          · refine Ev.neg hr (Ev.eq (Ev.now _) ?_)
            rw [Bool.not_eq_true] at hr
            rw [hr, Bool.false_and]
      · rintro ⟨m, hm, hk⟩
        by_cases h0 : i = 0
        · rw [if_pos h0]
        · rw [if_neg h0, Bool.and_eq_true, allF_iff, decide_eq_true_eq]
          constructor
          · intro j hj1 hj2
            rcases ((e m j).1 ((K_iff _ _ _).1 hk j (by omega))).1 with h | h
            · omega
            · rw [fallAt, decide_eq_true_eq, ← pb m j hm (by omega), ← pb m _ hm (by omega)]
              exact h
          · have := ((e m (i - 1)).1 ((K_iff _ _ _).1 hk (i - 1) (by omega))).2
            rw [pb m _ hm (by omega)] at this
            have := hd (i - 1) (by omega)
            omega
    · -- all different
      have hmd := miDigits_dig (s := tx i v) (by omega) hd
      refine ⟨_, Ev.neg (ne (by decide)) (Ev.pos rfl (Ev.some_of fun k => by rw [hmd]; rfl)), ?_⟩
      rintro ⟨m, hm, hk⟩
      have e : ∀ (s : ByteArray) (q j : Nat), mayAt 100 s q j = newTo s j j := fun s q j => by simp [mayAt]
      rw [kind_d, allF_iff]
      intro j _ hj
      rw [hz] at hj
      have := (K_iff _ _ _).1 hk j (by omega)
      rw [show (((100 : UInt8).toNat : Nat) : Int) = 100 from rfl] at this
      rw [e, newTo_iff] at this ⊢
      intro q hq
      rw [← pb m j hm (by omega), ← pb m q hm (by omega)]
      exact this q hq

end Go.Proofs.YtpdcjkiejglaiaaDoor.Q

/-
  The reference's search of the first reading of a kind behind another: it finds the least number.
-/
namespace Go.Proofs.YtpdcjkiejglaiaaDoor.Q
open Go.RowKit Go.Proofs.YtpdcjkiejglaiaaDoorW.PrintWords Go.Proofs.YtpdcjkiejglaiaaDoorW.PrintLast Go.Proofs.YtpdcjkiejglaiaaDoorW.PrintMore
set_option linter.unusedVariables false
set_option linter.unusedSimpArgs false

theorem toList_nil (s : ByteArray) : s.toList = ([] : List UInt8) ↔ s.size = 0 := by
  rw [ByteArray.toList_eq, ← li_length]
  unfold li
  rw [List.length_map, List.length_eq_zero_iff]
/-- the text behind which a search goes: none, or a reading -/
def btx (n : Nat) : Option Nat → ByteArray
  | none => ⟨#[]⟩
  | some b => tx n b
def okB (c : Int) (n : Nat) (bh : Option Nat) (m : Nat) : Bool := K c n m && (match bh with | none => true | some b => decide (b < m))
def Least (c : Int) (n : Nat) (bh : Option Nat) (S : Nat → Prop) (t : ByteArray) : Prop :=
  (∃ m, S m ∧ okB c n bh m = true ∧ (∀ m', S m' → m' < m → okB c n bh m' = false) ∧ t = tx n m) ∨ (t = ⟨#[]⟩ ∧ ∀ m', S m' → okB c n bh m' = false)
theorem Least.iff {c : Int} {n : Nat} {bh : Option Nat} {S T : Nat → Prop} {t : ByteArray} (h : Least c n bh S t) (e : ∀ m, S m ↔ T m) : Least c n bh T t := by
  rcases h with ⟨m, h1, h2, h3, h4⟩ | ⟨h1, h2⟩
  · exact .inl ⟨m, (e m).1 h1, h2, fun m' hm => h3 m' ((e m').2 hm), h4⟩
  · exact .inr ⟨h1, fun m' hm => h2 m' ((e m').2 hm)⟩
theorem div_lt_of {a b P : Nat} (h : a / P < b / P) : a < b := by
  apply Classical.byContradiction
  intro hx
  have := Nat.div_le_div_right (c := P) (Nat.le_of_not_lt hx)
  omega

theorem first_f (x0 : Int) (x1 x2 x3 : ByteArray) (k : Nat) : spec_miFirst.f (k + 1) x0 x1 x2 x3 = (spec_miCan.f k x0 x1 x2).bind fun t101 => (if t101 = true then (if x3.toList = ([] : List UInt8) then (spec_miFirst.j0 k x0 x1 x2 x3 false) else (if 0 ≤ (x1.size : Int) then (if (x1.size : Int) ≤ (x3.size : Int) then (spec_miFirst.j0 k x0 x1 x2 x3 (Op.bytesLess x1.toList ((x3.extract 0 ((x1.size : Int) : Int).toNat).toList))) else (none)) else (none))) else (spec_miFirst.j0 k x0 x1 x2 x3 true)) := by simp only [spec_miFirst.f]
theorem first_l (x0 : Int) (x1 x2 x3 : ByteArray) (x9 : Int) (k : Nat) : spec_miFirst.l0 (k + 1) x0 x1 x2 x3 x9 = if x9 < 10 then ((spec_l1Num.f k x9).bind fun t102 => (if x1.size + t102.size ≤ 9223372036854775807 then ((spec_miFirst.f k x0 (x1 ++ t102) x2 x3).bind fun t103 => (if t103.toList = ([] : List UInt8) then (spec_miFirst.l0 k x0 x1 x2 x3 (wrap64 (x9 + 1))) else (some t103))) else (none))) else (some (⟨#[]⟩ : ByteArray)) := by simp only [spec_miFirst.l0]

theorem wrap_next (x : Nat) (h : x < 10) : wrap64 ((x : Int) + 1) = ((x + 1 : Nat) : Int) := by rw [wrap_id (by omega) (by omega)]; rfl

set_option maxHeartbeats 1000000 in
theorem first_ev (c : UInt8) (hc : isLetter c) (n : Nat) (h1 : 1 ≤ n) (h9 : n ≤ 9) (bh : Option Nat) (hbh : ∀ b, bh = some b → b < 10 ^ n) :
    ∀ d i v, i + d = n → v < 10 ^ i → ∃ t, Ev (fun k => spec_miFirst.f k (n : Int) (tx i v) (kt c) (btx n bh)) t ∧ Least (c.toNat : Int) n bh (fun m => m / 10 ^ d = v) t := by
  intro d
  induction d with
  | zero =>
    intro i v hd hv
    obtain rfl : i = n := by omega
    obtain ⟨b, hb, he, _⟩ := can_ev c hc i i v h1 h9 (Nat.le_refl _) hv
    have he := he rfl
    have no : okB (c.toNat : Int) i bh v = false → Least (c.toNat : Int) i bh (fun m => m / 10 ^ 0 = v) ⟨#[]⟩ := fun h => .inr ⟨rfl, fun m hm => by rw [Nat.pow_zero, Nat.div_one] at hm; rw [hm]; exact h⟩
    have yes : okB (c.toNat : Int) i bh v = true → Least (c.toNat : Int) i bh (fun m => m / 10 ^ 0 = v) (tx i v) := fun h => .inl ⟨v, by show v / 10 ^ 0 = v; rw [Nat.pow_zero, Nat.div_one], h, fun m' hm hlt => by rw [Nat.pow_zero, Nat.div_one] at hm; omega, rfl⟩
    have jt : Ev (fun k => spec_miFirst.j0 k (i : Int) (tx i v) (kt c) (btx i bh) true) ⟨#[]⟩ := Ev.step (f := fun _ => some ⟨#[]⟩) (fun k => by simp only [spec_miFirst.j0]; rw [if_true]) (Ev.now _)
    have hz := tx_size i v
    by_cases hk : b = true
    · subst hk
      cases bh with
      | none =>
        have e0 : (btx i none).toList = [] := (toList_nil _).2 rfl
        refine ⟨tx i v, ?_, yes (by simp [okB, ← he])⟩
        refine Ev.step (first_f _ _ _ _) (Ev.bind' hb (Ev.pos rfl (Ev.pos e0 ?_)))
        refine Ev.step (f := fun _ => some (tx i v)) (fun k => ?_) (Ev.now _)
        simp only [spec_miFirst.j0]
        rw [if_neg (by decide), if_pos (by rw [hz]), if_pos e0]
      | some q =>
        have hq := hbh q rfl
        have hzq := tx_size i q
        have e0 : ¬ (btx i (some q)).toList = [] := fun h => by have := (toList_nil _).1 h; simp only [btx] at this; omega
        have ex : (btx i (some q)).extract 0 (((tx i v).size : Int)).toNat = tx i q := by
          rw [hz, Int.toNat_natCast]
          show (tx i q).extract 0 i = _
          rw [pre_txt i i q (Nat.le_refl _), Nat.sub_self, Nat.pow_zero, Nat.div_one]
        have l1 := (less_tx i v q hv hq).1
        have l2 := (less_tx i q v hq hv).1
        have start : ∀ t, Ev (fun k => spec_miFirst.j0 k (i : Int) (tx i v) (kt c) (btx i (some q)) (decide (v < q))) t → Ev (fun k => spec_miFirst.f k (i : Int) (tx i v) (kt c) (btx i (some q))) t := by
          intro t ht
          refine Ev.step (first_f _ _ _ _) (Ev.bind' hb (Ev.pos rfl (Ev.neg e0 (Ev.pos (by omega) (Ev.pos (show ((tx i v).size : Int) ≤ ((tx i q).size : Int) by omega) ?_)))))
          rw [ex, l1]
          exact ht
        by_cases hlt : q < v
        · refine ⟨tx i v, start _ ?_, yes (by simp [okB, ← he, hlt])⟩
          refine Ev.step (f := fun _ => some (tx i v)) (fun k => ?_) (Ev.now _)
          simp only [spec_miFirst.j0]
          rw [if_neg (by simp; omega), if_pos (by rw [hz]), if_neg e0, if_pos (by show Op.bytesLess (tx i q).toList _ = true; rw [l2]; simp [hlt])]
        · refine ⟨⟨#[]⟩, start _ ?_, no (by simp [okB, hlt])⟩
          by_cases hlt2 : v < q
          · rw [decide_eq_true hlt2]; exact jt
          · refine Ev.step (f := fun _ => some ⟨#[]⟩) (fun k => ?_) (Ev.now _)
            simp only [spec_miFirst.j0]
            rw [if_neg (by simp; omega), if_pos (by rw [hz]), if_neg e0, if_neg (by show ¬ Op.bytesLess (tx i q).toList _ = true; rw [l2]; simp [hlt])]
    · refine ⟨⟨#[]⟩, Ev.step (first_f _ _ _ _) (Ev.bind' hb (Ev.neg hk jt)), no ?_⟩
      rw [Bool.not_eq_true] at hk
      simp [okB, ← he, hk]
  | succ d ih =>
    intro i v hd hv
    have hi : i ≤ n := by omega
    have hni : n - i = d + 1 := by omega
    obtain ⟨b, hb, _, he⟩ := can_ev c hc n i v h1 h9 hi hv
    rw [hni] at he
    have hz := tx_size i v
    have jt : Ev (fun k => spec_miFirst.j0 k (n : Int) (tx i v) (kt c) (btx n bh) true) ⟨#[]⟩ := Ev.step (f := fun _ => some ⟨#[]⟩) (fun k => by simp only [spec_miFirst.j0]; rw [if_true]) (Ev.now _)
    have dv : ∀ m, m / 10 ^ (d + 1) = m / 10 ^ d / 10 := fun m => by rw [Nat.pow_succ, Nat.div_div_eq_div_mul]
    -- the ten digits
    have loop : ∀ (r x : Nat), x + r = 10 → ∃ t, Ev (fun k => spec_miFirst.l0 k (n : Int) (tx i v) (kt c) (btx n bh) (x : Int)) t ∧ Least (c.toNat : Int) n bh (fun m => m / 10 ^ d / 10 = v ∧ 10 * v + x ≤ m / 10 ^ d) t := by
      intro r
      induction r with
      | zero =>
        intro x hx
        refine ⟨⟨#[]⟩, Ev.step (f := fun _ => some ⟨#[]⟩) (fun k => ?_) (Ev.now _), .inr ⟨rfl, fun m hm => by omega⟩⟩
        simp only [spec_miFirst.l0]
        rw [if_neg (by omega)]
      | succ r ihr =>
        intro x hx
        have hx10 : x < 10 := by omega
        obtain ⟨t, ht, hl⟩ := ihr (x + 1) (by omega)
        obtain ⟨s, hs, hsl⟩ := ih (i + 1) (10 * v + x) (by omega) (by rw [Nat.pow_succ]; omega)
        have hone : (strOfNums [48 + (x : Int)]).size = 1 := by rw [← li_length, li_nums _ (by simp; omega)]; rfl
        have c10 : (x : Int) < 10 := by omega
        have cz : (tx i v).size + (strOfNums [48 + (x : Int)]).size ≤ 9223372036854775807 := by rw [hz, hone]; omega
        have go : ∀ q, (if s.toList = ([] : List UInt8) then q = t else q = s) → Ev (fun k => spec_miFirst.l0 k (n : Int) (tx i v) (kt c) (btx n bh) (x : Int)) q := by
          intro q hq
          refine Ev.step (first_l _ _ _ _ _) (Ev.pos c10 (Ev.bind' (l1Num_ev x hx10) (Ev.pos cz ?_)))
          rw [← tx_succ i v x hx10]
          refine Ev.bind' hs ?_
          by_cases he : s.toList = ([] : List UInt8)
          · rw [if_pos he] at hq; subst hq; rw [← wrap_next x hx10] at ht; exact Ev.pos he ht
          · rw [if_neg he] at hq; subst hq; exact Ev.neg he (Ev.now _)
        rcases hsl with ⟨m, h1', h2, h3, rfl⟩ | ⟨rfl, h2⟩
        · refine ⟨tx n m, go _ ?_, .inl ⟨m, ⟨by omega, by omega⟩, h2, ?_, rfl⟩⟩
          · rw [if_neg (fun h => by have := (toList_nil _).1 h; rw [tx_size] at this; omega)]
          · intro m' hm' hlt
            refine h3 m' ?_ hlt
            have := Nat.div_le_div_right (c := 10 ^ d) (Nat.le_of_lt hlt)
            omega
        · refine ⟨t, go _ (by rw [if_pos ((toList_nil _).2 rfl)]), ?_⟩
          rcases hl with ⟨m, h1', h2', h3, rfl⟩ | ⟨rfl, h3⟩
          · refine .inl ⟨m, ⟨h1'.1, by omega⟩, h2', ?_, rfl⟩
            intro m' hm' hlt
            by_cases e : m' / 10 ^ d = 10 * v + x
            · exact h2 m' e
            · exact h3 m' ⟨hm'.1, by omega⟩ hlt
          · refine .inr ⟨rfl, fun m' hm' => ?_⟩
            by_cases e : m' / 10 ^ d = 10 * v + x
            · exact h2 m' e
            · exact h3 m' ⟨hm'.1, by omega⟩
    obtain ⟨t, ht, hl⟩ := loop 10 0 rfl
    have hl := Least.iff (T := fun m => m / 10 ^ (d + 1) = v) hl (fun m => by rw [dv]; omega)
    have jf : Ev (fun k => spec_miFirst.j0 k (n : Int) (tx i v) (kt c) (btx n bh) false) t := by
      refine Ev.step (fun k => ?_) ht
      simp only [spec_miFirst.j0]
      rw [if_neg (by decide), if_neg (by rw [hz]; omega)]
      first | done | rfl
    by_cases hk : b = true
    · subst hk
      cases bh with
      | none =>
        have e0 : (btx n none).toList = [] := (toList_nil _).2 rfl
        exact ⟨t, Ev.step (first_f _ _ _ _) (Ev.bind' hb (Ev.pos rfl (Ev.pos e0 jf))), hl⟩
      | some q =>
        have hq := hbh q rfl
        have hzq := tx_size n q
        have e0 : ¬ (btx n (some q)).toList = [] := fun h => by have := (toList_nil _).1 h; simp only [btx] at this; omega
        have ex : (btx n (some q)).extract 0 (((tx i v).size : Int)).toNat = tx i (q / 10 ^ (d + 1)) := by
          rw [hz, Int.toNat_natCast]
          show (tx n q).extract 0 i = _
          rw [pre_txt n i q hi, hni]
        have hq2 : q / 10 ^ (d + 1) < 10 ^ i := by
          rw [Nat.div_lt_iff_lt_mul (Nat.pow_pos (by decide)), ← Nat.pow_add, hd]
          exact hq
        have l1 := (less_tx i v _ hv hq2).1
        have start : ∀ t, Ev (fun k => spec_miFirst.j0 k (n : Int) (tx i v) (kt c) (btx n (some q)) (decide (v < q / 10 ^ (d + 1)))) t → Ev (fun k => spec_miFirst.f k (n : Int) (tx i v) (kt c) (btx n (some q))) t := by
          intro t ht
          refine Ev.step (first_f _ _ _ _) (Ev.bind' hb (Ev.pos rfl (Ev.neg e0 (Ev.pos (by omega) (Ev.pos (show ((tx i v).size : Int) ≤ ((tx n q).size : Int) by omega) ?_)))))
          rw [ex, l1]
          exact ht
        by_cases hlt : v < q / 10 ^ (d + 1)
        · refine ⟨⟨#[]⟩, start _ (by rw [decide_eq_true hlt]; exact jt), .inr ⟨rfl, fun m hm => ?_⟩⟩
          have : m < q := div_lt_of (P := 10 ^ (d + 1)) (by rw [hm]; exact hlt)
          simp only [okB, Bool.and_eq_false_iff, decide_eq_false_iff_not]
          right; omega
        · exact ⟨t, start _ (by rw [decide_eq_false hlt]; exact jf), hl⟩
    · refine ⟨⟨#[]⟩, Ev.step (first_f _ _ _ _) (Ev.bind' hb (Ev.neg hk jt)), .inr ⟨rfl, fun m hm => ?_⟩⟩
      simp only [okB, Bool.and_eq_false_iff]
      left
      cases hkk : K (c.toNat : Int) n m with
      | false => rfl
      | true => exact absurd (he ⟨m, hm, hkk⟩) hk

/-- the next reading of a kind, going round -/
theorem next_ev (c : UInt8) (hc : isLetter c) (n v : Nat) (h1 : 1 ≤ n) (h9 : n ≤ 9) (hv : v < 10 ^ n) :
    ∃ t, Ev (fun k => spec_miNext.f k (tx n v) (kt c)) t ∧
      ((∃ st, 1 ≤ st ∧ st ≤ 10 ^ n ∧ K (c.toNat : Int) n ((v + st) % 10 ^ n) = true ∧ (∀ j, 1 ≤ j → j < st → K (c.toNat : Int) n ((v + j) % 10 ^ n) = false) ∧ t = tx n ((v + st) % 10 ^ n)) ∨
       (t = ⟨#[]⟩ ∧ ∀ m, m < 10 ^ n → K (c.toNat : Int) n m = false)) := by
  have hz := tx_size n v
  obtain ⟨t1, e1, l1⟩ := first_ev c hc n h1 h9 (some v) (fun b hb => by cases hb; exact hv) n 0 0 (by omega) (by simp)
  obtain ⟨t2, e2, l2⟩ := first_ev c hc n h1 h9 none (fun b hb => by cases hb) n 0 0 (by omega) (by simp)
  have dl0 : ∀ m, m / 10 ^ n = 0 ↔ m < 10 ^ n := fun m => by rw [Nat.div_eq_zero_iff]; have := Nat.pow_pos (n := n) (show 0 < 10 by decide); omega
  have l1 := l1.iff dl0
  have l2 := l2.iff dl0
  generalize 10 ^ n = P at *
  unfold spec_miNext.f
  rw [hz]
  rcases l1 with ⟨m, h2, h3, h4, rfl⟩ | ⟨rfl, h3⟩
  · have hne : ¬ (tx n m).toList = ([] : List UInt8) := fun h => by have := (toList_nil _).1 h; rw [tx_size] at this; omega
    refine ⟨tx n m, Ev.bind' e1 (Ev.neg hne (Ev.now _)), .inl ⟨m - v, ?_⟩⟩
    simp only [okB, Bool.and_eq_true, decide_eq_true_eq] at h3
    have e : (v + (m - v)) % P = m := by rw [show v + (m - v) = m by omega]; exact Nat.mod_eq_of_lt h2
    refine ⟨by omega, by omega, by rw [e]; exact h3.1, fun j hj1 hj2 => ?_, by rw [e]⟩
    have e' : (v + j) % P = v + j := Nat.mod_eq_of_lt (by omega)
    rw [e']
    have := h4 (v + j) (by omega) (by omega)
    simp only [okB, Bool.and_eq_false_iff, decide_eq_false_iff_not] at this
    rcases this with h | h
    · exact h
    · omega
  · have hn : ((⟨#[]⟩ : ByteArray).toList) = ([] : List UInt8) := (toList_nil _).2 rfl
    refine ⟨t2, Ev.bind' e1 (Ev.pos hn (Ev.bind' e2 (Ev.now _))), ?_⟩
    have up : ∀ m, v < m → m < P → K (c.toNat : Int) n m = false := by
      intro m a b
      have := h3 m b
      simp only [okB, Bool.and_eq_false_iff, decide_eq_false_iff_not] at this
      rcases this with h | h
      · exact h
      · omega
    rcases l2 with ⟨m, h2, h3', h4, rfl⟩ | ⟨rfl, h4⟩
    · simp only [okB, Bool.and_true] at h3' h4
      have hmv : m ≤ v := by
        apply Classical.byContradiction
        intro hx
        rw [up m (by omega) h2] at h3'
        cases h3'
      have e : (v + (m + P - v)) % P = m := by rw [show v + (m + P - v) = m + P by omega, Nat.add_mod_right]; exact Nat.mod_eq_of_lt h2
      refine .inl ⟨m + P - v, by omega, by omega, by rw [e]; exact h3', fun j hj1 hj2 => ?_, by rw [e]⟩
      by_cases c : v + j < P
      · rw [Nat.mod_eq_of_lt c]; exact up _ (by omega) c
      · rw [show v + j = (v + j - P) + P by omega, Nat.add_mod_right, Nat.mod_eq_of_lt (by omega)]
        exact h4 _ (by omega) (by omega)
    · refine .inr ⟨rfl, fun m hm => ?_⟩
      have := h4 m hm
      simpa [okB] using this

end Go.Proofs.YtpdcjkiejglaiaaDoor.Q

/-
  The first reading with so many different digits: the program's search and the reference's find the same.
-/
namespace Go.Proofs.YtpdcjkiejglaiaaDoor.Q
open Go.RowKit Go.Proofs.YtpdcjkiejglaiaaDoorW.PrintWords Go.Proofs.YtpdcjkiejglaiaaDoorW.PrintLast Go.Proofs.YtpdcjkiejglaiaaDoorW.PrintMore
set_option linter.unusedVariables false
set_option linter.unusedSimpArgs false

/-- the least number with a property, in a set -/
def LeastP (C S : Nat → Prop) : Option Nat → Prop
  | some m => S m ∧ C m ∧ ∀ m', S m' → m' < m → ¬ C m'
  | none => ∀ m', S m' → ¬ C m'
theorem LeastP.congr {C C' S S' : Nat → Prop} {r : Option Nat} (h : LeastP C S r) (hs : ∀ m, S m ↔ S' m) (hc : ∀ m, S m → (C m ↔ C' m)) : LeastP C' S' r := by
  cases r with
  | some m => exact ⟨(hs m).1 h.1, (hc m h.1).1 h.2.1, fun m' a b c => h.2.2 m' ((hs m').2 a) b ((hc m' ((hs m').2 a)).2 c)⟩
  | none => exact fun m' a c => h m' ((hs m').2 a) ((hc m' ((hs m').2 a)).2 c)
theorem LeastP.unique {C S : Nat → Prop} {r r' : Option Nat} (h : LeastP C S r) (h' : LeastP C S r') : r = r' := by
  cases r with
  | some m =>
    cases r' with
    | some m' =>
      have a := h.2.2 m' h'.1
      have b := h'.2.2 m h.1
      by_cases c : m' < m
      · exact absurd h'.2.1 (a c)
      · by_cases d : m < m'
        · exact absurd h.2.1 (b d)
        · rw [show m = m' by omega]
    | none => exact absurd h.2.1 (h' m h.1)
  | none =>
    cases r' with
    | some m' => exact absurd h'.2.1 (h m' h'.1)
    | none => rfl
/-- the ten digits, one by one -/
theorem LeastP.step {C : Nat → Prop} {P v k : Nat} {r1 r2 : Option Nat} (h1 : LeastP C (fun m => m / P = 10 * v + k) r1) (hk : k < 10) (h2 : LeastP C (fun m => m / P / 10 = v ∧ 10 * v + (k + 1) ≤ m / P) r2) :
    LeastP C (fun m => m / P / 10 = v ∧ 10 * v + k ≤ m / P) (match r1 with | some x => some x | none => r2) := by
  cases r1 with
  | some m =>
    obtain ⟨a, b, c⟩ := h1
    refine ⟨⟨by rw [a]; omega, by rw [a]; exact Nat.le_refl _⟩, b, fun m' hm' hlt hc => c m' ?_ hlt hc⟩
    have := Nat.div_le_div_right (c := P) (Nat.le_of_lt hlt)
    have := hm'.2
    show m' / P = 10 * v + k
    omega
  | none =>
    cases r2 with
    | some m =>
      obtain ⟨a, b, c⟩ := h2
      refine ⟨⟨a.1, by have := a.2; omega⟩, b, fun m' hm' hlt hc => ?_⟩
      by_cases e : m' / P = 10 * v + k
      · exact h1 m' e hc
      · exact c m' ⟨hm'.1, by have := hm'.2; omega⟩ hlt hc
    | none =>
      intro m' hm' hc
      by_cases e : m' / P = 10 * v + k
      · exact h1 m' e hc
      · exact h2 m' ⟨hm'.1, by have := hm'.2; omega⟩ hc
def CD (q : Nat → Nat → Prop) (n b i : Nat) (m : Nat) : Prop := b ≤ m ∧ ∀ j, i ≤ j → j ≤ n → q j (m / 10 ^ (n - j))

/-- what the program's search finds -/
theorem fnd_least (p : ByteArray → Bool) (n b : Nat) : ∀ (d i v : Nat) (t : Bool), i + d = n → v < 10 ^ i → b / 10 ^ d ≤ v → (t = true ↔ v = b / 10 ^ d) →
    ∃ r, fnd p (tx n b) d (tx i v) t = r.map (tx n) ∧ LeastP (CD (fun j x => p (tx j x) = true) n b (i + 1)) (fun m => m / 10 ^ d = v) r := by
  intro d
  induction d with
  | zero =>
    intro i v t hd hv hb ht
    obtain rfl : i = n := by omega
    rw [Nat.pow_zero, Nat.div_one] at hb
    refine ⟨some v, rfl, by simp, ⟨hb, fun j a c => by omega⟩, fun m' hm' hlt => ?_⟩
    simp at hm'
    omega
  | succ d ih =>
    intro i v t hd hv hb ht
    have dv : ∀ m, m / 10 ^ (d + 1) = m / 10 ^ d / 10 := fun m => by rw [Nat.pow_succ, Nat.div_div_eq_div_mul]
    have hz := tx_size i v
    have hbt : bt (tx n b) ((tx i v).size : Int) = 48 + ((b / 10 ^ d % 10 : Nat) : Int) := by rw [hz, bt_tx n b i (by omega), show n - 1 - i = d by omega]
    rw [dv] at hb ht
    have loop : ∀ r k, k + r = 10 → ∃ o, fndK (fun k => if (t && decide (48 + (k : Int) < bt (tx n b) ((tx i v).size : Int))) = true then none else if p (tx i v ++ strOfNums [48 + (k : Int)]) = true then fnd p (tx n b) d (tx i v ++ strOfNums [48 + (k : Int)]) (t && (48 + (k : Int) == bt (tx n b) ((tx i v).size : Int))) else none) r k = o.map (tx n) ∧ LeastP (CD (fun j x => p (tx j x) = true) n b (i + 1)) (fun m => m / 10 ^ d / 10 = v ∧ 10 * v + k ≤ m / 10 ^ d) o := by
      intro r
      induction r with
      | zero =>
        intro k hk
        exact ⟨none, rfl, fun m' hm' => by omega⟩
      | succ r ihr =>
        intro k hk
        obtain ⟨o2, e2, l2⟩ := ihr (k + 1) (by omega)
        have one : ∃ o1, (if (t && decide (48 + (k : Int) < bt (tx n b) ((tx i v).size : Int))) = true then none else if p (tx i v ++ strOfNums [48 + (k : Int)]) = true then fnd p (tx n b) d (tx i v ++ strOfNums [48 + (k : Int)]) (t && (48 + (k : Int) == bt (tx n b) ((tx i v).size : Int))) else none) = o1.map (tx n) ∧ LeastP (CD (fun j x => p (tx j x) = true) n b (i + 1)) (fun m => m / 10 ^ d = 10 * v + k) o1 := by
          rw [hbt, ← tx_succ i v k (by omega)]
          by_cases c1 : (t && decide (48 + (k : Int) < 48 + ((b / 10 ^ d % 10 : Nat) : Int))) = true
          · rw [if_pos c1]
            simp only [Bool.and_eq_true, decide_eq_true_eq] at c1
            have hv2 := ht.1 c1.1
            refine ⟨none, rfl, fun m' hm' hc => ?_⟩
            have : m' < b := div_lt_of (P := 10 ^ d) (by rw [hm']; omega)
            have := hc.1
            omega
          · rw [if_neg c1]
            have hge : b / 10 ^ d ≤ 10 * v + k := by
              simp only [Bool.and_eq_true, decide_eq_true_eq, not_and] at c1
              by_cases htt : t = true
              · have := c1 htt; have := ht.1 htt; omega
              · have : ¬ v = b / 10 ^ d / 10 := fun h => htt (ht.2 h)
                omega
            by_cases c2 : p (tx (i + 1) (10 * v + k)) = true
            · rw [if_pos c2]
              obtain ⟨o1, e1, l1⟩ := ih (i + 1) (10 * v + k) (t && (48 + (k : Int) == 48 + ((b / 10 ^ d % 10 : Nat) : Int))) (by omega) (by rw [Nat.pow_succ]; omega) hge (by
                simp only [Bool.and_eq_true, beq_iff_eq]
                constructor
                · rintro ⟨h1, h2⟩; have := ht.1 h1; omega
                · intro h
                  have hv2 : v = b / 10 ^ d / 10 := by omega
                  exact ⟨ht.2 hv2, by omega⟩)
              refine ⟨o1, e1, l1.congr (fun m => Iff.rfl) fun m hm => ?_⟩
              constructor
              · rintro ⟨h1, h2⟩
                refine ⟨h1, fun j a c => ?_⟩
                by_cases ej : j = i + 1
                · rw [ej, show n - (i + 1) = d by omega, hm]; exact c2
                · exact h2 j (by omega) c
              · rintro ⟨h1, h2⟩
                exact ⟨h1, fun j a c => h2 j (by omega) c⟩
            · rw [if_neg c2]
              refine ⟨none, rfl, fun m' hm' hc => c2 ?_⟩
              have := hc.2 (i + 1) (Nat.le_refl _) (by omega)
              rw [show n - (i + 1) = d by omega, hm'] at this
              exact this
        obtain ⟨o1, e1, l1⟩ := one
        refine ⟨_, ?_, LeastP.step l1 (by omega) l2⟩
        simp only [fndK]
        rw [e1, e2]
        cases o1 <;> rfl
    obtain ⟨o, e, l⟩ := loop 10 0 rfl
    refine ⟨o, e, l.congr (fun m => by rw [dv]; omega) fun m _ => Iff.rfl⟩

end Go.Proofs.YtpdcjkiejglaiaaDoor.Q

/-
  The program's search of the next reading of a kind finds what the reference finds.
-/
namespace Go.Proofs.YtpdcjkiejglaiaaDoor.Q
open Go.RowKit Go.Proofs.YtpdcjkiejglaiaaDoorW.PrintWords Go.Proofs.YtpdcjkiejglaiaaDoorW.PrintLast Go.Proofs.YtpdcjkiejglaiaaDoorW.PrintMore
set_option linter.unusedVariables false
set_option linter.unusedSimpArgs false

/-- the test of a beginning -/
def kmay (c : Int) (n : Nat) (s : ByteArray) : Bool := mayAt c s n (s.size - 1)
theorem kmay_at (c : UInt8) (hc : isLetter c) (n m j : Nat) (hj : j < n) : kmay (c.toNat : Int) n (tx (j + 1) (m / 10 ^ (n - (j + 1)))) = mayAt (c.toNat : Int) (tx n m) n j := by
  have pb : ∀ i, i ≤ j → bt (tx (j + 1) (m / 10 ^ (n - (j + 1)))) (i : Int) = bt (tx n m) (i : Int) := fun i hi => (pre_bt n (j + 1) m i (by omega) (by omega)).symm
  have e0 := pb 0 (by omega)
  have ej := pb j (Nat.le_refl _)
  have e1 := pb (j - 1) (by omega)
  unfold kmay
  rw [tx_size, Nat.add_sub_cancel]
  have en : newTo (tx (j + 1) (m / 10 ^ (n - (j + 1)))) j j = newTo (tx n m) j j := by
    rw [Bool.eq_iff_iff, newTo_iff, newTo_iff]
    constructor
    · intro h q hq; rw [← pb q (by omega), ← ej]; exact h q hq
    · intro h q hq; rw [pb q (by omega), ej]; exact h q hq
  have eo : n - 1 - j ≤ j → bt (tx (j + 1) (m / 10 ^ (n - (j + 1)))) ((n - 1 - j : Nat) : Int) = bt (tx n m) ((n - 1 - j : Nat) : Int) := fun h => pb _ h
  unfold mayAt
  rw [ej, e1, en]
  by_cases d : j < n - 1 - j
  · simp only [d, decide_true, Bool.true_or]
    have e0' : bt (tx (j + 1) (m / 10 ^ (n - (j + 1)))) 0 = bt (tx n m) 0 := e0
    rw [e0']
  · rw [eo (by omega)]
    have e0' : bt (tx (j + 1) (m / 10 ^ (n - (j + 1)))) 0 = bt (tx n m) 0 := e0
    rw [e0']
theorem kind_search (c : UInt8) (hc : isLetter c) (n b : Nat) (hb : b < 10 ^ n) :
    ∃ r, fnd (kmay (c.toNat : Int) n) (tx n b) n ⟨#[]⟩ true = Option.map (tx n) r ∧ LeastP (fun m => b ≤ m ∧ K (c.toNat : Int) n m = true) (fun m => m < 10 ^ n) r := by
  have dz : ∀ m, m / 10 ^ n = 0 ↔ m < 10 ^ n := fun m => by
    rw [Nat.div_eq_zero_iff]
    have := Nat.pow_pos (n := n) (show 0 < 10 by decide)
    omega
  have hb0 : b / 10 ^ n = 0 := (dz b).2 hb
  obtain ⟨r, e, l⟩ := fnd_least (kmay (c.toNat : Int) n) n b n 0 0 true (by omega) (by simp) (by rw [hb0]; exact Nat.le_refl _) (by rw [hb0]; simp)
  refine ⟨r, e, l.congr dz fun m _ => ?_⟩
  rw [K_iff]
  constructor
  · rintro ⟨h1, h2⟩
    refine ⟨h1, fun j hj => ?_⟩
    rw [← kmay_at c hc n m j hj]
    exact h2 (j + 1) (by omega) (by omega)
  · rintro ⟨h1, h2⟩
    refine ⟨h1, fun j a e => ?_⟩
    have := kmay_at c hc n m (j - 1) (by omega)
    rw [show j - 1 + 1 = j by omega] at this
    show kmay (c.toNat : Int) n (tx j (m / 10 ^ (n - j))) = true
    rw [this]
    exact h2 (j - 1) (by omega)

/-- going round, from the next mile on: the same reading as the reference's -/
theorem kind_around (c : UInt8) (hc : isLetter c) (n v : Nat) (h1 : 1 ≤ n) (h9 : n ≤ 9) (hv : v < 10 ^ n) :
    ∃ t, Ev (fun k => spec_miNext.f k (tx n v) (kt c)) (outT t) ∧
      (fnd (kmay (c.toNat : Int) n) (tx n ((v + 1) % 10 ^ n)) n ⟨#[]⟩ true).or (fnd (kmay (c.toNat : Int) n) (tx n 0) n ⟨#[]⟩ true) = t ∧ (∀ x, t = some x → ∃ m, m < 10 ^ n ∧ x = tx n m) := by
  have hp0 : 0 < 10 ^ n := Nat.pow_pos (by decide)
  obtain ⟨t, ht, hh⟩ := next_ev c hc n v h1 h9 hv
  obtain ⟨r1, e1, l1⟩ := kind_search c hc n ((v + 1) % 10 ^ n) (Nat.mod_lt _ hp0)
  obtain ⟨r2, e2, l2⟩ := kind_search c hc n 0 hp0
  rw [e1, e2]
  clear e1 e2
  generalize hP : 10 ^ n = P at *
  clear hP
  rcases hh with ⟨st, s1, s2, s3, s4, rfl⟩ | ⟨rfl, hno⟩
  · refine ⟨some (tx n ((v + st) % P)), ht, ?_, fun x hx => ⟨(v + st) % P, Nat.mod_lt _ hp0, (Option.some.inj hx).symm⟩⟩
    -- the least behind v, or else the least
    by_cases c1 : v + st < P
    · -- found behind v
      have hm : (v + st) % P = v + st := Nat.mod_eq_of_lt c1
      have hb : (v + 1) % P = v + 1 := Nat.mod_eq_of_lt (by omega)
      rw [hm] at s3 ⊢
      rw [hb] at l1
      have : LeastP (fun m => v + 1 ≤ m ∧ K (c.toNat : Int) n m = true) (fun m => m < P) (some (v + st)) := by
        refine ⟨c1, ⟨by omega, s3⟩, fun m' hm' hlt hk => ?_⟩
        have h4 := s4 (m' - v) (by have := hk.1; omega) (by have := hk.1; omega)
        rw [show v + (m' - v) = m' by have := hk.1; omega, Nat.mod_eq_of_lt hm'] at h4
        rw [hk.2] at h4; cases h4
      rw [LeastP.unique l1 this]
      rfl
    · -- round
      have hm : (v + st) % P = v + st - P := by
        have h := Nat.add_mod_right (v + st - P) P
        rw [show v + st - P + P = v + st by omega, Nat.mod_eq_of_lt (a := v + st - P) (by omega)] at h
        exact h
      rw [hm] at s3 ⊢
      have low : LeastP (fun m => 0 ≤ m ∧ K (c.toNat : Int) n m = true) (fun m => m < P) (some (v + st - P)) := by
        refine ⟨by omega, ⟨Nat.zero_le _, s3⟩, fun m' hm' hlt hk => ?_⟩
        have h4 := s4 (m' + P - v) (by omega) (by omega)
        rw [show v + (m' + P - v) = m' + P by omega, Nat.add_mod_right, Nat.mod_eq_of_lt hm'] at h4
        rw [hk.2] at h4; cases h4
      by_cases c2 : v + 1 < P
      · have hb : (v + 1) % P = v + 1 := Nat.mod_eq_of_lt c2
        rw [hb] at l1
        have : LeastP (fun m => v + 1 ≤ m ∧ K (c.toNat : Int) n m = true) (fun m => m < P) none := by
          intro m' hm' hk
          have h4 := s4 (m' - v) (by have := hk.1; omega) (by have := hk.1; omega)
          rw [show v + (m' - v) = m' by have := hk.1; omega, Nat.mod_eq_of_lt hm'] at h4
          rw [hk.2] at h4; cases h4
        rw [LeastP.unique l1 this, LeastP.unique l2 low]
        rfl
      · have hb : (v + 1) % P = 0 := by rw [show v + 1 = P by omega, Nat.mod_self]
        rw [hb] at l1
        rw [LeastP.unique l1 low]
        rfl
  · refine ⟨none, ht, ?_, fun x hx => by cases hx⟩
    have none1 : ∀ b, LeastP (fun m => b ≤ m ∧ K (c.toNat : Int) n m = true) (fun m => m < P) none := by
      intro b m hm hk
      have := hno m hm
      rw [hk.2] at this; cases this
    rw [LeastP.unique l1 (none1 _), LeastP.unique l2 (none1 _)]
    rfl

end Go.Proofs.YtpdcjkiejglaiaaDoor.Q

/-
  The test of NextOfKind.
-/
namespace Go.Proofs.YtpdcjkiejglaiaaDoor.Q
open Go.RowKit Go.Proofs.YtpdcjkiejglaiaaDoorW.PrintWords Go.Proofs.YtpdcjkiejglaiaaDoorW.PrintLast Go.Proofs.YtpdcjkiejglaiaaDoorW.PrintMore
set_option linter.unusedVariables false
set_option linter.unusedSimpArgs false

set_option maxHeartbeats 4000000 in
set_option maxRecDepth 100000 in
theorem mayK_any (reading s : ByteArray) (c : UInt8) (pa pb : Nat) (w : World) (n9 : reading.size ≤ 9) (s1 : 1 ≤ s.size) (sn : s.size ≤ reading.size) (hd : isDig s = true) (h1 : w.heap[pa]? = some (.cells #[.string (kt c)] 9 (0, 0))) (h2 : w.heap[pb]? = some (.cells #[.string reading] 9 (0, 0))) :
    Calls Tryd.prog 29 #[.string s, .pointer (some ⟨pa, 0, none⟩), .pointer (some ⟨pb, 0, none⟩)] w fun e w' => e = .returned (.bool (kmay (c.toNat : Int) reading.size s)) ∧ Drawn0 w w' := by
  obtain ⟨k, hk⟩ := (may_ev (c.toNat : Int) s reading.size (s.size - 1) (by omega) (by omega) n9 (isDig_at hd)).rounds
  have HK := Aside0.mk hk
  have c1 := cell_of_one h1
  have c2 := cell_of_one h2
  have hc : ∀ h : 0 < (kt c).size, (((kt c)[0]'h).toNat : Int) = (c.toNat : Int) := fun _ => rfl
  have hz : (kt c).size = 1 := rfl
  obtain ⟨z, hzz⟩ : ∃ z, z = kt c := ⟨_, rfl⟩
  rw [← hzz] at c1 hz
  have hc' : ∀ h : 0 < z.size, ((z[0]'h).toNat : Int) = (c.toNat : Int) := by rw [hzz]; exact hc
  have b1 : (0 : Int) < (z.size : Int) := by omega
  clear h1 h2 hk hc hzz
  go_enter Tryd.func29, Tryd.ntmps29
  go_wp2
  go_quiet ((go_at_call 30; (with_reducible refine (impl_may.calls k (c.toNat : Int) s (reading.size : Int) _ _ HK.out).mono ?_); rintro e w' ⟨rfl, ⟨nd, rfl⟩⟩; first | exact ⟨rfl, _, World.drewN_drewN _ _ _⟩ | exact ⟨rfl, _, rfl⟩))
  go_wp2
  go_ret
  exact ⟨rfl, ⟨_, rfl⟩⟩

end Go.Proofs.YtpdcjkiejglaiaaDoor.Q

/-
  'AddMiles' by one mile, and 'isKind'.
-/
namespace Go.Proofs.YtpdcjkiejglaiaaDoor.Q
open Go.RowKit Go.Proofs.YtpdcjkiejglaiaaDoorW.PrintWords Go.Proofs.YtpdcjkiejglaiaaDoorW.PrintLast Go.Proofs.YtpdcjkiejglaiaaDoorW.PrintMore
set_option linter.unusedVariables false
set_option linter.unusedSimpArgs false

theorem tab_drewN {w : World} (h : Tab w) (n : Nat) : Tab (w.drewN n) := h
theorem add_arith (v P : Nat) (hP : 0 < P) (h9 : P ≤ 1000000000) (hv : v < P) : Int.tmod (wrap64 ((v : Int) + 1)) (P : Int) = (((v + 1) % P : Nat) : Int) := by
  rw [wrap_id (by omega) (by omega), show (v : Int) + 1 = ((v + 1 : Nat) : Int) by omega]
  rfl
set_option maxHeartbeats 4000000 in
set_option maxRecDepth 100000 in
theorem addMiles_any (n v : Nat) (w : World) (T : Tab w) (n1 : 1 ≤ n) (n9 : n ≤ 9) (hv : v < 10 ^ n) (g : good (tx n v) = true) :
    Calls Tryd.prog 26 #[.string (tx n v), .int .i64 1] w fun e w' => e = .returned (.tuple #[.string (tx n ((v + 1) % 10 ^ n)), .bool true]) ∧ Below w.heap.size w w' := by
  have hz := tx_size n v
  obtain ⟨k, hk⟩ := (IsReading_ev (tx n v) (by omega)).rounds
  rw [g] at hk
  obtain ⟨k2, hk2⟩ := (number_ev n v n9 hv).rounds
  obtain ⟨k3, hk3⟩ := (round_ev n n9).rounds
  have hw : impl_within.f 1 0 1000000000 = some true := by decide
  have hp0 : 0 < 10 ^ n := Nat.pow_pos (by decide)
  have ha := add_arith v (10 ^ n) hp0 (pow_le n9) hv
  have HK := Aside0.mk hk
  have HK2 := Aside0.mk hk2
  have HK3 := Aside0.mk hk3
  have HW := Aside0.mk hw
  have HT := Aside0.mk T
  have HM := Aside0.mk (Nat.mod_lt (v + 1) hp0)
  clear hk hk2 hk3 hw T
  have hPne : ((10 ^ n : Nat) : Int) ≠ 0 := by omega
  generalize hP : 10 ^ n = P at *
  generalize tx n v = s at *
  have hPz : (((P : Nat) : Int) == 0) = false := by rw [beq_eq_false_iff_ne]; exact hPne
  go_enter Tryd.func26, Tryd.ntmps26
  go_wp2_with (first | (go_at_call 43; with_reducible refine (impl_IsReading.calls k s true _ HK.out).mono ?_; rintro e w1 ⟨rfl, ⟨nd, rfl⟩⟩) | (go_at_call 37; with_reducible refine (impl_within.calls 1 0 1000000000 true _ HW.out).mono ?_; rintro e w2 ⟨rfl, ⟨nd2, rfl⟩⟩) | (go_at_call 22; with_reducible refine (impl_numberOf.calls k2 s v _ HK2.out).mono ?_; rintro e w3 ⟨rfl, ⟨nd3, rfl⟩⟩) | (go_at_call 33; with_reducible refine (impl_round.calls k3 n P _ HK3.out).mono ?_; rintro e w4 ⟨rfl, ⟨nd4, rfl⟩⟩))
  refine calls_of_args (args' := #[.int .i64 (((v + 1) % P : Nat) : Int), .int .i64 (n : Int)]) (by congr 1) ?_
  refine (padded_any ((v + 1) % P) n _ (tab_drewN HT.out _) n1 n9 (by rw [hP]; exact HM.out)).mono ?_
  rintro e w5 ⟨rfl, hb⟩
  go_wp2
  go_ret2
  exact ⟨rfl, below_step (pw_below_drewN (Below.refl w.heap.size w) _) hb⟩

/-- the text is the letter of a kind -/
def kindB (s : ByteArray) : Bool := decide (s.size = 1) && decide ((s.data.toList.getD 0 0) ∈ ([97, 109, 117, 114, 102, 100] : List UInt8))
theorem one_byte (s : ByteArray) (h : s.size = 1) : s = kt (s.data.toList.getD 0 0) := by
  obtain ⟨⟨l⟩⟩ := s
  match l, h with
  | [c], _ => rfl
theorem kindB_kt (c : UInt8) : kindB (kt c) = true ↔ isLetter c := by
  simp [kindB, kt, isLetter, ByteArray.size]

set_option maxHeartbeats 4000000 in
set_option maxRecDepth 100000 in
theorem isKind_any (s : ByteArray) (w : World) : Calls Tryd.prog 27 #[.string s] w fun e w' => e = .returned (.bool (kindB s)) ∧ w' = w := by
  by_cases h : s.size = 1
  · have hs := one_byte s h
    generalize s.data.toList.getD 0 0 = c at hs
    subst hs
    have key : kindB (kt c) = decide (0 ≤ Lib.indexByte [97, 109, 117, 114, 102, 100] c) := by
      have hz : (kt c).size = 1 := rfl
      have h1 : (kt c).data.toList.getD 0 0 = c := rfl
      have h2 := idx_neg [97, 109, 117, 114, 102, 100] c
      unfold kindB
      rw [hz, h1]
      rw [show decide ((1 : Nat) = 1) = true from rfl, Bool.true_and]
      by_cases hm : c ∈ ([97, 109, 117, 114, 102, 100] : List UInt8)
      · rw [decide_eq_true hm, decide_eq_true]
        exact Int.not_lt.1 fun hx => h2.1 hx hm
      · rw [decide_eq_false hm, decide_eq_false]
        exact fun hx => absurd (h2.2 hm) (by omega)
    rw [key]
    go_enter Tryd.func27, Tryd.ntmps27
    go_wp2_with (go_at_call 45; refine (Tryd.strings_Contains_one ⟨#[97,109,117,114,102,100]⟩ c w).mono ?_; rintro e w1 ⟨rfl, rfl⟩)
    go_ret
    exact ⟨rfl, rfl⟩
  · have hk : kindB s = false := by unfold kindB; rw [decide_eq_false h]; rfl
    rw [hk]
    have hf : ((s.size : Int) == 1) = false := by rw [beq_eq_false_iff_ne]; omega
    go_enter Tryd.func27, Tryd.ntmps27
    go_wp2
    go_ret
    exact ⟨rfl, rfl⟩

end Go.Proofs.YtpdcjkiejglaiaaDoor.Q

/-
  'NextOfKind'.
-/
namespace Go.Proofs.YtpdcjkiejglaiaaDoor.Q
open Go.RowKit Go.Proofs.YtpdcjkiejglaiaaDoorW.PrintWords Go.Proofs.YtpdcjkiejglaiaaDoorW.PrintLast Go.Proofs.YtpdcjkiejglaiaaDoorW.PrintMore
set_option linter.unusedVariables false
set_option linter.unusedSimpArgs false

def kindOf (a1 : ByteArray) : UInt8 := a1.data.toList.getD 0 0
def nkFound (a0 : ByteArray) (c : UInt8) : Option ByteArray := (fnd (kmay (c.toNat : Int) a0.size) (tx a0.size ((val (li a0) + 1) % 10 ^ a0.size)) a0.size ⟨#[]⟩ true).or (fnd (kmay (c.toNat : Int) a0.size) (tx a0.size 0) a0.size ⟨#[]⟩ true)
def nkRes (a0 a1 : ByteArray) : ByteArray × Bool := if good a0 = true ∧ kindB a1 = true then (outT (nkFound a0 (kindOf a1)), (nkFound a0 (kindOf a1)).isSome) else (⟨#[]⟩, false)

theorem nk_h1 (w w' : World) (a0 a1 : ByteArray) (hb : Below ((w.alloc (.cells #[.string a0] 9)).alloc (.cells #[.string a1] 9)).heap.size ((w.alloc (.cells #[.string a0] 9)).alloc (.cells #[.string a1] 9)) w') : w'.heap[w.heap.size]? = some (.cells #[.string a0] 9 (0, 0)) := by
  rw [hb.block _ (by simp only [al_size]; omega)]
  rw [al_old _ _ _ (by simp only [al_size]; omega)]
  exact al_new _ _ _ rfl
theorem nk_h2 (w w' : World) (a0 a1 : ByteArray) (hb : Below ((w.alloc (.cells #[.string a0] 9)).alloc (.cells #[.string a1] 9)).heap.size ((w.alloc (.cells #[.string a0] 9)).alloc (.cells #[.string a1] 9)) w') : w'.heap[w.heap.size + 1]? = some (.cells #[.string a1] 9 (0, 0)) := by
  rw [hb.block _ (by simp only [al_size]; omega)]
  exact al_new _ _ _ (by simp only [al_size])

set_option maxHeartbeats 4000000 in
set_option maxRecDepth 100000 in
theorem addMiles_bad (s : ByteArray) (w : World) (hs : s.size ≤ 140737488351232) (g : good s = false) :
    Calls Tryd.prog 26 #[.string s, .int .i64 1] w fun e w' => e = .returned (.tuple #[.string ⟨#[]⟩, .bool false]) ∧ Below w.heap.size w w' := by
  obtain ⟨k, hk⟩ := (IsReading_ev s hs).rounds
  rw [g] at hk
  have HK := Aside0.mk hk
  clear hk g
  go_enter Tryd.func26, Tryd.ntmps26
  go_wp2_with (go_at_call 43; with_reducible refine (impl_IsReading.calls k s false _ HK.out).mono ?_; rintro e w1 ⟨rfl, ⟨nd, rfl⟩⟩)
  go_ret2
  exact ⟨rfl, pw_below_drewN (Below.refl w.heap.size w) _⟩

theorem addMiles_ok (a0 : ByteArray) (w : World) (T : Tab w) (g : good a0 = true) :
    Calls Tryd.prog 26 #[.string a0, .int .i64 1] w fun e w' => e = .returned (.tuple #[.string (tx a0.size ((val (li a0) + 1) % 10 ^ a0.size)), .bool true]) ∧ Below w.heap.size w w' := by
  obtain ⟨n1, n9, _⟩ := good_at g
  obtain ⟨v, hv, e0, ev⟩ := good_tx g
  have g' := g
  rw [e0] at g'
  have key := addMiles_any a0.size v w T n1 n9 hv g'
  rw [← e0] at key
  rw [ev]
  exact key
theorem around_n (n : Nat) (z : ByteArray) (hz : z.size = n) (n9 : n ≤ 9) (pa pb : Nat) (p : ByteArray → Bool) (w : World)
    (M : MayOk w n 29 #[.pointer (some ⟨pa, 0, none⟩), .pointer (some ⟨pb, 0, none⟩)] p) (F : Option ByteArray) (hF : (fnd p z n ⟨#[]⟩ true).or (fnd p (tx n 0) n ⟨#[]⟩ true) = F) (r1 : ByteArray) (r2 : Bool) (h1 : outT F = r1) (h2 : F.isSome = r2) :
    Calls Tryd.prog 28 #[.string z, .func (.func 29) #[] #[.pointer (some ⟨pa, 0, none⟩), .pointer (some ⟨pb, 0, none⟩)]] w fun e w' => e = .returned (.tuple #[.string r1, .bool r2]) ∧ Below w.heap.size w w' := by
  subst hz
  subst hF
  subst h1
  subst h2
  exact around_any z n9 pa pb p w M _ _ rfl rfl

set_option maxHeartbeats 4000000 in
set_option maxRecDepth 100000 in
theorem nk_any (a0 a1 : ByteArray) (w : World) (T : Tab w) (hs : a0.size ≤ 140737488351232) (r1 : ByteArray) (r2 : Bool) (hr : nkRes a0 a1 = (r1, r2)) :
    Calls Tryd.prog 12 #[.string a0, .string a1] w fun e w' => e = .returned (.tuple #[.string r1, .bool r2]) ∧ Below w.heap.size w w' := by
  have T2 : ∀ W : World, Below w.heap.size w W → Tab W := fun W hb => T.below hb
  have HT := Aside0.mk T2
  clear T T2
  by_cases g : good a0 = true
  · have am := fun W hb => addMiles_ok a0 W (HT.out W hb) g
    have hz := tx_size a0.size ((val (li a0) + 1) % 10 ^ a0.size)
    obtain ⟨n1, n9, _⟩ := good_at g
    by_cases hk : kindB a1 = true
    · unfold nkRes at hr
      rw [if_pos ⟨g, hk⟩] at hr
      obtain ⟨hr1, hr2⟩ := Prod.mk.inj hr
      unfold nkFound at hr1 hr2
      have hkt : a1 = kt (kindOf a1) := one_byte a1 (by unfold kindB at hk; simp only [Bool.and_eq_true, decide_eq_true_eq] at hk; exact hk.1)
      generalize kindOf a1 = c at *
      generalize tx a0.size ((val (li a0) + 1) % 10 ^ a0.size) = z at *
      generalize hF : (fnd (kmay (c.toNat : Int) a0.size) z a0.size ⟨#[]⟩ true).or (fnd (kmay (c.toNat : Int) a0.size) (tx a0.size 0) a0.size ⟨#[]⟩ true) = F at hr1 hr2
      have ar : ∀ W : World, Below ((w.alloc (.cells #[.string a0] 9)).alloc (.cells #[.string a1] 9)).heap.size ((w.alloc (.cells #[.string a0] 9)).alloc (.cells #[.string a1] 9)) W → Calls Tryd.prog 28 #[.string z, .func (.func 29) #[] #[.pointer (some ⟨w.heap.size + 1, 0, none⟩), .pointer (some ⟨w.heap.size, 0, none⟩)]] W fun e w' => e = .returned (.tuple #[.string r1, .bool r2]) ∧ Below W.heap.size W w' := by
        intro W hb
        refine around_n a0.size z hz n9 _ _ (kmay (c.toNat : Int) a0.size) W ?_ F hF r1 r2 hr1 hr2
        intro s w' hw hd hs1 hs2
        refine (mayK_any a0 s c _ _ w' n9 (by omega) (by omega) hd (by rw [← hkt]; exact heap_below (nk_h2 w W a0 a1 hb) hw) (heap_below (nk_h1 w W a0 a1 hb) hw)).mono ?_
        rintro e w3 ⟨rfl, ⟨q, rfl⟩⟩
        exact ⟨rfl, pw_below_drewN (Below.refl _ _) q⟩
      have AM := Aside0.mk am
      have AR := Aside0.mk ar
      have HKD := Aside0.mk hk
      clear hr hr1 hr2 hkt hF am ar hk g hz
      go_enter Tryd.func12, Tryd.ntmps12
      go_wp2_with (first | (go_at_call 26; refine (AM.out _ (by repeat (first | (with_reducible first | exact Below.refl _ _ | apply below_alloc | apply pw_below_drewN | apply below_drew1) | exact Below.refl _ _))).mono ?_; rintro e w1 ⟨rfl, hb1⟩; have c9 := cell_of_one (nk_h2 w _ a0 a1 hb1)) | (go_at_call 27; refine (isKind_any a1 _).mono ?_; rw [HKD.out]; rintro e w2 ⟨rfl, rfl⟩) | (go_at_call 28; refine (AR.out _ hb1).mono ?_; rintro e w3 ⟨rfl, hb3⟩))
      go_ret2
      exact ⟨rfl, below_step (below_step (by repeat (first | (with_reducible first | exact Below.refl _ _ | apply below_alloc | apply pw_below_drewN | apply below_drew1) | exact Below.refl _ _)) hb1) hb3⟩
    · unfold nkRes at hr
      rw [if_neg (fun h => hk h.2)] at hr
      obtain ⟨rfl, rfl⟩ : (⟨#[]⟩ : ByteArray) = r1 ∧ false = r2 := Prod.mk.inj hr
      rw [Bool.not_eq_true] at hk
      generalize tx a0.size ((val (li a0) + 1) % 10 ^ a0.size) = z at *
      have AM := Aside0.mk am
      have HKD := Aside0.mk hk
      clear hr am hk g hz
      go_enter Tryd.func12, Tryd.ntmps12
      go_wp2_with (first | (go_at_call 26; refine (AM.out _ (by repeat (first | (with_reducible first | exact Below.refl _ _ | apply below_alloc | apply pw_below_drewN | apply below_drew1) | exact Below.refl _ _))).mono ?_; rintro e w1 ⟨rfl, hb1⟩; have c9 := cell_of_one (nk_h2 w _ a0 a1 hb1)) | (go_at_call 27; refine (isKind_any a1 _).mono ?_; rw [HKD.out]; rintro e w2 ⟨rfl, rfl⟩))
      go_ret2
      exact ⟨rfl, below_step (by repeat (first | (with_reducible first | exact Below.refl _ _ | apply below_alloc | apply pw_below_drewN | apply below_drew1) | exact Below.refl _ _)) hb1⟩
  · rw [Bool.not_eq_true] at g
    unfold nkRes at hr
    rw [if_neg (by rw [g]; simp)] at hr
    obtain ⟨rfl, rfl⟩ : (⟨#[]⟩ : ByteArray) = r1 ∧ false = r2 := Prod.mk.inj hr
    have AM := Aside0.mk (fun W => addMiles_bad a0 W hs g)
    clear hr g
    go_enter Tryd.func12, Tryd.ntmps12
    go_wp2_with (go_at_call 26; refine (AM.out _).mono ?_; rintro e w1 ⟨rfl, hb1⟩)
    go_ret2
    exact ⟨rfl, below_step (by repeat (first | (with_reducible first | exact Below.refl _ _ | apply below_alloc | apply pw_below_drewN | apply below_drew1) | exact Below.refl _ _)) hb1⟩

/-- 'NextOfKind': its sizes are those of memory -/
def impl_NextOfKind.f (a0 a1 : ByteArray) : Option (ByteArray × Bool) := if a0.size ≤ 140737488351232 then some (nkRes a0 a1) else none
theorem impl_NextOfKind.calls (a0 a1 : ByteArray) (r1 : ByteArray) (r2 : Bool) (w : World) (T : Tab w) (h : impl_NextOfKind.f a0 a1 = some (r1, r2)) :
    Calls Tryd.prog 12 #[.string a0, .string a1] w fun e w' => e = .returned (.tuple #[.string r1, .bool r2]) ∧ Below w.heap.size w w' := by
  unfold impl_NextOfKind.f at h
  by_cases c : a0.size ≤ 140737488351232
  · rw [if_pos c] at h
    exact nk_any a0 a1 w T c r1 r2 (Option.some.inj h)
  · rw [if_neg c] at h; cases h

end Go.Proofs.YtpdcjkiejglaiaaDoor.Q

/- Laid by a program of this session (wip/tools/own_print.py) over the translation of this seat: contracts of the functions that the statement reaches. -/
namespace Go.Proofs.YtpdcjkiejglaiaaDoor.Q
open Go.RowKit Go.Proofs.YtpdcjkiejglaiaaDoorW.PrintWords Go.Proofs.YtpdcjkiejglaiaaDoorW.PrintLast Go.Proofs.YtpdcjkiejglaiaaDoorW.PrintMore
attribute [local go_sem] max2_int min2_int max_two min_two max_three min_three max_four min_four   -- for this text's walks alone
set_option linter.unusedVariables false
set_option linter.unusedSimpArgs false

/-! ### impl_milesTo: function 34 -/
def impl_milesTo.f (k : Nat) (a0 : ByteArray) (a1 : ByteArray) : Option (Int) := (impl_round.f k (a0.size : Int)).bind fun t101 => ((impl_numberOf.f k a1).bind fun t102 => ((impl_numberOf.f k a0).bind fun t103 => (if t101 = 0 then (none) else (some (Int.tmod (wrap64 ((wrap64 (t102 - t103)) + t101)) t101)))))
theorem impl_milesTo.mono : ∀ a0 a1 k, LeO (impl_milesTo.f k a0 a1) (impl_milesTo.f (k + 1) a0 a1) := by
  intro a0 a1 k
  unfold impl_milesTo.f
  repeat' first
      | (with_reducible exact impl_numberOf.mono _ _)
      | (with_reducible exact impl_round.mono _ _)
      | (with_reducible exact LeO.refl _)
      | (with_reducible exact LeO.none _)
      | (with_reducible refine LeO.ite ?_ ?_)
      | (with_reducible refine LeO.bind ?_ (fun _ => ?_))
      | exact impl_numberOf.mono _ _
      | exact impl_round.mono _ _
      | exact LeO.none _
      | refine LeO.ite ?_ ?_
      | refine LeO.bind ?_ (fun _ => ?_)
set_option maxHeartbeats 8000000 in
set_option maxRecDepth 100000 in
theorem impl_milesTo.calls (k : Nat) (a0 : ByteArray) (a1 : ByteArray) (r : Int) (w : World) (h : impl_milesTo.f k a0 a1 = some r) :
    Calls Tryd.prog 34 #[.string a0, .string a1] w fun e w' => e = .returned (.int .i64 r) ∧ Drawn0 w w' := by
  have H : ((impl_round.f k (a0.size : Int)).bind fun t101 => ((impl_numberOf.f k a1).bind fun t102 => ((impl_numberOf.f k a0).bind fun t103 => (if t101 = 0 then (none) else (some (Int.tmod (wrap64 ((wrap64 (t102 - t103)) + t101)) t101)))))) = some r := h
  clear h
  replace H := Option.bind_eq_some_iff.mp H
  obtain ⟨t101, A30, H⟩ := H
  replace H : ((impl_numberOf.f k a1).bind fun t102 => ((impl_numberOf.f k a0).bind fun t103 => (if t101 = 0 then (none) else (some (Int.tmod (wrap64 ((wrap64 (t102 - t103)) + t101)) t101))))) = some r := H
  have A3 := Aside0.mk A30
  clear A30
  replace H := Option.bind_eq_some_iff.mp H
  obtain ⟨t102, A40, H⟩ := H
  replace H : ((impl_numberOf.f k a0).bind fun t103 => (if t101 = 0 then (none) else (some (Int.tmod (wrap64 ((wrap64 (t102 - t103)) + t101)) t101)))) = some r := H
  have A4 := Aside0.mk A40
  clear A40
  replace H := Option.bind_eq_some_iff.mp H
  obtain ⟨t103, A50, H⟩ := H
  replace H : (if t101 = 0 then (none) else (some (Int.tmod (wrap64 ((wrap64 (t102 - t103)) + t101)) t101))) = some r := H
  have A5 := Aside0.mk A50
  clear A50
  by_cases c6 : t101 = 0
  · rw [if_pos c6] at H
    exact absurd H (by simp)
  · rw [if_neg c6] at H
    have c6b0 : (t101 == 0) = false := beq_eq_false_iff_ne.mpr c6
    have c6b1 : (t101 != 0) = true := bne_iff_ne.mpr c6
    obtain rfl := Option.some.inj H
    go_enter Tryd.func34, Tryd.ntmps34
    go_wp2_with (first | ((with_reducible refine gate_callee (f := 33) rfl ?_); refine goesL_ (some 8) rfl rfl Tryd.func33 (by kernel_rfl) rfl #[.int .i64 (a0.size : Int)] rfl (by (try simp only [List.map_toArray, List.map_cons, List.map_nil]); first | done | rfl | (simp only [List.length_drop, List.length_take]; rfl)) ?_; (with_reducible refine (impl_round.calls k (a0.size : Int) t101 _ A3.out).mono ?_); rintro e w' ⟨rfl, ⟨nd, rfl⟩⟩; refine ⟨_, rfl, ?_⟩) | ((with_reducible refine gate_callee (f := 22) rfl ?_); refine goesL_ (some 10) rfl rfl Tryd.func22 (by kernel_rfl) rfl #[.string a1] rfl (by (try simp only [List.map_toArray, List.map_cons, List.map_nil]); first | done | rfl | (simp only [List.length_drop, List.length_take]; rfl)) ?_; (with_reducible refine (impl_numberOf.calls k a1 t102 _ A4.out).mono ?_); rintro e w' ⟨rfl, ⟨nd, rfl⟩⟩; refine ⟨_, rfl, ?_⟩) | ((with_reducible refine gate_callee (f := 22) rfl ?_); refine goesL_ (some 12) rfl rfl Tryd.func22 (by kernel_rfl) rfl #[.string a0] rfl (by (try simp only [List.map_toArray, List.map_cons, List.map_nil]); first | done | rfl | (simp only [List.length_drop, List.length_take]; rfl)) ?_; (with_reducible refine (impl_numberOf.calls k a0 t103 _ A5.out).mono ?_); rintro e w' ⟨rfl, ⟨nd, rfl⟩⟩; refine ⟨_, rfl, ?_⟩))
    go_ret
    exact ⟨by first | rfl | (simp; done) | (simp [*]; done), by repeat (first | exact Drawn0.refl _ | apply Drawn0.step)⟩

end Go.Proofs.YtpdcjkiejglaiaaDoor.Q

/- Laid by a program of this session (wip/tools/own_print.py) over the translation of this seat: contracts of the functions that the statement reaches. -/
namespace Go.Proofs.YtpdcjkiejglaiaaDoor.Q
open Go.RowKit Go.Proofs.YtpdcjkiejglaiaaDoorW.PrintWords Go.Proofs.YtpdcjkiejglaiaaDoorW.PrintLast Go.Proofs.YtpdcjkiejglaiaaDoorW.PrintMore
attribute [local go_sem] max2_int min2_int max_two min_two max_three min_three max_four min_four   -- for this text's walks alone
set_option linter.unusedVariables false
set_option linter.unusedSimpArgs false

/-! ### impl_MilesToKind: function 14 -/
def impl_MilesToKind.f (k : Nat) (a0 : ByteArray) (a1 : ByteArray) : Option (Int × Bool) := (impl_NextOfKind.f a0 a1).bind fun bt101 => (if bt101.2 = true then (if bt101.1.toList = a0.toList then ((impl_round.f k (a0.size : Int)).bind fun t103 => (some (t103, true))) else ((impl_milesTo.f k a0 bt101.1).bind fun t104 => (some (t104, true)))) else (some (0, false)))
theorem impl_MilesToKind.mono : ∀ a0 a1 k, LeO (impl_MilesToKind.f k a0 a1) (impl_MilesToKind.f (k + 1) a0 a1) := by
  intro a0 a1 k
  unfold impl_MilesToKind.f
  repeat' first
      | (with_reducible exact impl_milesTo.mono _ _ _)
      | (with_reducible exact impl_round.mono _ _)
      | (with_reducible exact LeO.refl _)
      | (with_reducible exact LeO.none _)
      | (with_reducible refine LeO.ite ?_ ?_)
      | (with_reducible refine LeO.bind ?_ (fun _ => ?_))
      | exact impl_milesTo.mono _ _ _
      | exact impl_round.mono _ _
      | exact LeO.none _
      | refine LeO.ite ?_ ?_
      | refine LeO.bind ?_ (fun _ => ?_)
set_option maxHeartbeats 8000000 in
set_option maxRecDepth 100000 in
theorem impl_MilesToKind.calls (k : Nat) (a0 : ByteArray) (a1 : ByteArray) (r1 : Int) (r2 : Bool) (w : World) (T0 : Tab w) (h : impl_MilesToKind.f k a0 a1 = some (r1, r2)) :
    Calls Tryd.prog 14 #[.string a0, .string a1] w fun e w' => e = .returned (.tuple #[.int .i64 r1, .bool r2]) ∧ Below w.heap.size w w' := by
  have T := Aside0.mk T0
  clear T0
  have HB := Aside0.mk (Below.refl w.heap.size w)
  have H : ((impl_NextOfKind.f a0 a1).bind fun bt101 => (if bt101.2 = true then (if bt101.1.toList = a0.toList then ((impl_round.f k (a0.size : Int)).bind fun t103 => (some (t103, true))) else ((impl_milesTo.f k a0 bt101.1).bind fun t104 => (some (t104, true)))) else (some (0, false)))) = some (r1, r2) := h
  clear h
  replace H := Option.bind_eq_some_iff.mp H
  obtain ⟨⟨t101, t102⟩, A30, H⟩ := H
  replace H : (if t102 = true then (if t101.toList = a0.toList then ((impl_round.f k (a0.size : Int)).bind fun t103 => (some (t103, true))) else ((impl_milesTo.f k a0 t101).bind fun t104 => (some (t104, true)))) else (some (0, false))) = some (r1, r2) := H
  have A3 := Aside0.mk A30
  clear A30
  by_cases c4 : t102 = true
  · subst c4
    have H1 : (if t101.toList = a0.toList then ((impl_round.f k (a0.size : Int)).bind fun t103 => (some (t103, true))) else ((impl_milesTo.f k a0 t101).bind fun t104 => (some (t104, true)))) = some (r1, r2) := by rw [if_pos rfl] at H; exact H
    clear H
    have H := H1
    clear H1
    by_cases c5 : t101.toList = a0.toList
    · rw [if_pos c5] at H
      have c5b0 : (t101.toList == a0.toList) = true := beq_iff_eq.mpr c5
      have c5b1 : (t101.toList != a0.toList) = false := bne_eq_false_iff_eq.mpr c5
      clear c5
      replace H := Option.bind_eq_some_iff.mp H
      obtain ⟨t103, A60, H⟩ := H
      replace H : (some (t103, true)) = some (r1, r2) := H
      have A6 := Aside0.mk A60
      clear A60
      simp only [Option.some.injEq, Prod.mk.injEq] at H
      obtain ⟨rfl, rfl⟩ := H
      go_enter Tryd.func14, Tryd.ntmps14
      go_wp2_with (first | ((with_reducible refine gate_callee (f := 12) rfl ?_); refine goesL_ (some 11) rfl rfl Tryd.func12 (by kernel_rfl) rfl #[.string a0, .string a1] rfl (by (try simp only [List.map_toArray, List.map_cons, List.map_nil]); first | done | rfl | (simp only [List.length_drop, List.length_take]; rfl)) ?_; (with_reducible refine (impl_NextOfKind.calls a0 a1 t101 true _ (T.out.below (by repeat (first | (with_reducible first | exact HB.out | exact Below.refl _ _ | apply below_alloc | apply pw_below_drewN | apply below_drew1) | exact HB.out | exact Below.refl _ _))) A3.out).mono ?_); rintro e w7 ⟨rfl, hb⟩; refine ⟨_, rfl, ?_⟩; have n0_ := Aside0.mk (below_step (by repeat (first | (with_reducible first | exact HB.out | apply below_alloc | apply pw_below_drewN | apply below_drew1) | exact HB.out)) hb); clear HB; have HB := n0_; clear n0_; (try clear hb); (try clear hb2); (try clear hk); (try clear hi)) | ((with_reducible refine gate_callee (f := 33) rfl ?_); refine goesL_ (some 21) rfl rfl Tryd.func33 (by kernel_rfl) rfl #[.int .i64 (a0.size : Int)] rfl (by (try simp only [List.map_toArray, List.map_cons, List.map_nil]); first | done | rfl | (simp only [List.length_drop, List.length_take]; rfl)) ?_; (with_reducible refine (impl_round.calls k (a0.size : Int) t103 _ A6.out).mono ?_); rintro e w' ⟨rfl, ⟨nd, rfl⟩⟩; refine ⟨_, rfl, ?_⟩))
      go_ret2
      exact ⟨by first | rfl | (simp [errW_none, errW_some] <;> rfl) | (simp [*, errW_none, errW_some] <;> rfl), by repeat (first | (with_reducible first | exact HB.out | apply below_alloc | apply pw_below_drewN | apply below_drew1) | exact HB.out)⟩
    · rw [if_neg c5] at H
      have c5b0 : (t101.toList == a0.toList) = false := beq_eq_false_iff_ne.mpr c5
      have c5b1 : (t101.toList != a0.toList) = true := bne_iff_ne.mpr c5
      replace H := Option.bind_eq_some_iff.mp H
      obtain ⟨t104, A80, H⟩ := H
      replace H : (some (t104, true)) = some (r1, r2) := H
      have A8 := Aside0.mk A80
      clear A80
      simp only [Option.some.injEq, Prod.mk.injEq] at H
      obtain ⟨rfl, rfl⟩ := H
      go_enter Tryd.func14, Tryd.ntmps14
      go_wp2_with (first | ((with_reducible refine gate_callee (f := 12) rfl ?_); refine goesL_ (some 11) rfl rfl Tryd.func12 (by kernel_rfl) rfl #[.string a0, .string a1] rfl (by (try simp only [List.map_toArray, List.map_cons, List.map_nil]); first | done | rfl | (simp only [List.length_drop, List.length_take]; rfl)) ?_; (with_reducible refine (impl_NextOfKind.calls a0 a1 t101 true _ (T.out.below (by repeat (first | (with_reducible first | exact HB.out | exact Below.refl _ _ | apply below_alloc | apply pw_below_drewN | apply below_drew1) | exact HB.out | exact Below.refl _ _))) A3.out).mono ?_); rintro e w9 ⟨rfl, hb⟩; refine ⟨_, rfl, ?_⟩; have n0_ := Aside0.mk (below_step (by repeat (first | (with_reducible first | exact HB.out | apply below_alloc | apply pw_below_drewN | apply below_drew1) | exact HB.out)) hb); clear HB; have HB := n0_; clear n0_; (try clear hb); (try clear hb2); (try clear hk); (try clear hi)) | ((with_reducible refine gate_callee (f := 34) rfl ?_); refine goesL_ (some 24) rfl rfl Tryd.func34 (by kernel_rfl) rfl #[.string a0, .string t101] rfl (by (try simp only [List.map_toArray, List.map_cons, List.map_nil]); first | done | rfl | (simp only [List.length_drop, List.length_take]; rfl)) ?_; (with_reducible refine (impl_milesTo.calls k a0 t101 t104 _ A8.out).mono ?_); rintro e w' ⟨rfl, ⟨nd, rfl⟩⟩; refine ⟨_, rfl, ?_⟩))
      go_ret2
      exact ⟨by first | rfl | (simp [errW_none, errW_some] <;> rfl) | (simp [*, errW_none, errW_some] <;> rfl), by repeat (first | (with_reducible first | exact HB.out | apply below_alloc | apply pw_below_drewN | apply below_drew1) | exact HB.out)⟩
  · replace c4 := Bool.eq_false_iff.mpr c4
    subst c4
    have H1 : (some (0, false)) = some (r1, r2) := by rw [if_neg (show ¬ (false = true) by decide)] at H; exact H
    clear H
    have H := H1
    clear H1
    simp only [Option.some.injEq, Prod.mk.injEq] at H
    obtain ⟨rfl, rfl⟩ := H
    go_enter Tryd.func14, Tryd.ntmps14
    go_wp2_with (first | ((with_reducible refine gate_callee (f := 12) rfl ?_); refine goesL_ (some 11) rfl rfl Tryd.func12 (by kernel_rfl) rfl #[.string a0, .string a1] rfl (by (try simp only [List.map_toArray, List.map_cons, List.map_nil]); first | done | rfl | (simp only [List.length_drop, List.length_take]; rfl)) ?_; (with_reducible refine (impl_NextOfKind.calls a0 a1 t101 false _ (T.out.below (by repeat (first | (with_reducible first | exact HB.out | exact Below.refl _ _ | apply below_alloc | apply pw_below_drewN | apply below_drew1) | exact HB.out | exact Below.refl _ _))) A3.out).mono ?_); rintro e w10 ⟨rfl, hb⟩; refine ⟨_, rfl, ?_⟩; have n0_ := Aside0.mk (below_step (by repeat (first | (with_reducible first | exact HB.out | apply below_alloc | apply pw_below_drewN | apply below_drew1) | exact HB.out)) hb); clear HB; have HB := n0_; clear n0_; (try clear hb); (try clear hb2); (try clear hk); (try clear hi)))
    go_ret2
    exact ⟨by first | rfl | (simp [errW_none, errW_some] <;> rfl) | (simp [*, errW_none, errW_some] <;> rfl), by repeat (first | (with_reducible first | exact HB.out | apply below_alloc | apply pw_below_drewN | apply below_drew1) | exact HB.out)⟩

end Go.Proofs.YtpdcjkiejglaiaaDoor.Q

/- Laid by a program of this session (wip/tools/own_print.py) over the translation of this seat: contracts of the functions that the statement reaches. -/
namespace Go.Proofs.YtpdcjkiejglaiaaDoor.Q
open Go.RowKit Go.Proofs.YtpdcjkiejglaiaaDoorW.PrintWords Go.Proofs.YtpdcjkiejglaiaaDoorW.PrintLast Go.Proofs.YtpdcjkiejglaiaaDoorW.PrintMore
attribute [local go_sem] max2_int min2_int max_two min_two max_three min_three max_four min_four   -- for this text's walks alone
set_option linter.unusedVariables false
set_option linter.unusedSimpArgs false

/-! ### laws_FnExactMilesToKind: function 6 -/
def laws_FnExactMilesToKind.f (k : Nat) (a0 : ByteArray) (a1 : ByteArray) : Option (Bool) := if (a0.size : Int) > 1048576 then (some true) else (if (a1.size : Int) > 1048576 then (some true) else ((spec_MilesToKind.f k a0 a1).bind fun bt101 => ((impl_MilesToKind.f k a0 a1).bind fun bt103 => (if bt103.1 = bt101.1 then (if (bt103.2 != bt101.2) = true then (some false) else (some true)) else (some false)))))
theorem laws_FnExactMilesToKind.mono : ∀ a0 a1 k, LeO (laws_FnExactMilesToKind.f k a0 a1) (laws_FnExactMilesToKind.f (k + 1) a0 a1) := by
  intro a0 a1 k
  unfold laws_FnExactMilesToKind.f
  repeat' first
      | (with_reducible exact impl_MilesToKind.mono _ _ _)
      | (with_reducible exact spec_MilesToKind.mono _ _ _)
      | (with_reducible exact LeO.refl _)
      | (with_reducible exact LeO.none _)
      | (with_reducible refine LeO.ite ?_ ?_)
      | (with_reducible refine LeO.bind ?_ (fun _ => ?_))
      | exact impl_MilesToKind.mono _ _ _
      | exact spec_MilesToKind.mono _ _ _
      | exact LeO.none _
      | refine LeO.ite ?_ ?_
      | refine LeO.bind ?_ (fun _ => ?_)
set_option maxHeartbeats 8000000 in
set_option maxRecDepth 100000 in
theorem laws_FnExactMilesToKind.calls (k : Nat) (a0 : ByteArray) (a1 : ByteArray) (r : Bool) (w : World) (T0 : Tab w) (h : laws_FnExactMilesToKind.f k a0 a1 = some r) :
    Calls Tryd.prog 6 #[.string a0, .string a1] w fun e w' => e = .returned (.bool r) ∧ Below w.heap.size w w' := by
  have T := Aside0.mk T0
  clear T0
  have HB := Aside0.mk (Below.refl w.heap.size w)
  have H : (if (a0.size : Int) > 1048576 then (some true) else (if (a1.size : Int) > 1048576 then (some true) else ((spec_MilesToKind.f k a0 a1).bind fun bt101 => ((impl_MilesToKind.f k a0 a1).bind fun bt103 => (if bt103.1 = bt101.1 then (if (bt103.2 != bt101.2) = true then (some false) else (some true)) else (some false)))))) = some r := h
  clear h
  by_cases c3 : (a0.size : Int) > 1048576
  · rw [if_pos c3] at H
    have c3b0 : decide (1048576 < (a0.size : Int)) = true := decide_eq_true c3
    have c3b1 : decide (1048576 < a0.size) = true := decide_eq_true (by omega)
    clear c3
    obtain rfl := Option.some.inj H
    go_enter Tryd.func6, Tryd.ntmps6
    go_wp2
    go_ret
    exact ⟨by first | rfl | (simp [errW_none, errW_some] <;> rfl) | (simp [*, errW_none, errW_some] <;> rfl), by repeat (first | (with_reducible first | exact HB.out | apply below_alloc | apply pw_below_drewN | apply below_drew1) | exact HB.out)⟩
  · rw [if_neg c3] at H
    have c3b0 : decide (1048576 < (a0.size : Int)) = false := decide_eq_false c3
    have c3b1 : decide (1048576 < a0.size) = false := decide_eq_false (by omega)
    clear c3
    by_cases c4 : (a1.size : Int) > 1048576
    · rw [if_pos c4] at H
      have c4b0 : decide (1048576 < (a1.size : Int)) = true := decide_eq_true c4
      have c4b1 : decide (1048576 < a1.size) = true := decide_eq_true (by omega)
      clear c4
      obtain rfl := Option.some.inj H
      go_enter Tryd.func6, Tryd.ntmps6
      go_wp2
      go_ret
      exact ⟨by first | rfl | (simp [errW_none, errW_some] <;> rfl) | (simp [*, errW_none, errW_some] <;> rfl), by repeat (first | (with_reducible first | exact HB.out | apply below_alloc | apply pw_below_drewN | apply below_drew1) | exact HB.out)⟩
    · rw [if_neg c4] at H
      have c4b0 : decide (1048576 < (a1.size : Int)) = false := decide_eq_false c4
      have c4b1 : decide (1048576 < a1.size) = false := decide_eq_false (by omega)
      clear c4
      replace H := Option.bind_eq_some_iff.mp H
      obtain ⟨⟨t101, t102⟩, A50, H⟩ := H
      replace H : ((impl_MilesToKind.f k a0 a1).bind fun bt103 => (if bt103.1 = t101 then (if (bt103.2 != t102) = true then (some false) else (some true)) else (some false))) = some r := H
      have A5 := Aside0.mk A50
      clear A50
      replace H := Option.bind_eq_some_iff.mp H
      obtain ⟨⟨t103, t104⟩, A60, H⟩ := H
      replace H : (if t103 = t101 then (if (t104 != t102) = true then (some false) else (some true)) else (some false)) = some r := H
      have A6 := Aside0.mk A60
      clear A60
      by_cases c7 : t103 = t101
      · rw [if_pos c7] at H
        have c7b0 : (t103 == t101) = true := beq_iff_eq.mpr c7
        have c7b1 : (t103 != t101) = false := bne_eq_false_iff_eq.mpr c7
        clear c7
        by_cases c8 : (t104 != t102) = true
        · rw [if_pos c8] at H
          have c8b0 : (t104 != t102) = true := c8
          (try (have c8b1 : decide (t104 = t102) = false := by simpa using c8))
          (try (have c8b2 : (t104 == t102) = false := by simpa using c8))
          (try (have c8b3 : ¬ (t104 = t102) := by simpa using c8))
          clear c8
          obtain rfl := Option.some.inj H
          go_enter Tryd.func6, Tryd.ntmps6
          go_wp2_with (first | ((with_reducible refine gate_callee (f := 13) rfl ?_); refine goesL_ (some 18) rfl rfl Tryd.func13 (by kernel_rfl) rfl #[.string a0, .string a1] rfl (by (try simp only [List.map_toArray, List.map_cons, List.map_nil]); first | done | rfl | (simp only [List.length_drop, List.length_take]; rfl)) ?_; (with_reducible refine (spec_MilesToKind.calls k a0 a1 t101 t102 _ A5.out).mono ?_); rintro e w9 ⟨rfl, hb⟩; refine ⟨_, rfl, ?_⟩; have n0_ := Aside0.mk (below_step (by repeat (first | (with_reducible first | exact HB.out | apply below_alloc | apply pw_below_drewN | apply below_drew1) | exact HB.out)) hb); clear HB; have HB := n0_; clear n0_; (try clear hb); (try clear hb2); (try clear hk); (try clear hi)) | ((with_reducible refine gate_callee (f := 14) rfl ?_); refine goesL_ (some 24) rfl rfl Tryd.func14 (by kernel_rfl) rfl #[.string a0, .string a1] rfl (by (try simp only [List.map_toArray, List.map_cons, List.map_nil]); first | done | rfl | (simp only [List.length_drop, List.length_take]; rfl)) ?_; (with_reducible refine (impl_MilesToKind.calls k a0 a1 t103 t104 _ (T.out.below (by repeat (first | (with_reducible first | exact HB.out | exact Below.refl _ _ | apply below_alloc | apply pw_below_drewN | apply below_drew1) | exact HB.out | exact Below.refl _ _))) A6.out).mono ?_); rintro e w10 ⟨rfl, hb⟩; refine ⟨_, rfl, ?_⟩; have n0_ := Aside0.mk (below_step (by repeat (first | (with_reducible first | exact HB.out | apply below_alloc | apply pw_below_drewN | apply below_drew1) | exact HB.out)) hb); clear HB; have HB := n0_; clear n0_; (try clear hb); (try clear hb2); (try clear hk); (try clear hi)))
          go_ret
          exact ⟨by first | rfl | (simp [errW_none, errW_some] <;> rfl) | (simp [*, errW_none, errW_some] <;> rfl), by repeat (first | (with_reducible first | exact HB.out | apply below_alloc | apply pw_below_drewN | apply below_drew1) | exact HB.out)⟩
        · rw [if_neg c8] at H
          have c8b0 : (t104 != t102) = false := by simpa using c8
          (try (have c8b1 : decide (t104 = t102) = true := by simpa using c8))
          (try (have c8b2 : (t104 == t102) = true := by simpa using c8))
          clear c8
          obtain rfl := Option.some.inj H
          go_enter Tryd.func6, Tryd.ntmps6
          go_wp2_with (first | ((with_reducible refine gate_callee (f := 13) rfl ?_); refine goesL_ (some 18) rfl rfl Tryd.func13 (by kernel_rfl) rfl #[.string a0, .string a1] rfl (by (try simp only [List.map_toArray, List.map_cons, List.map_nil]); first | done | rfl | (simp only [List.length_drop, List.length_take]; rfl)) ?_; (with_reducible refine (spec_MilesToKind.calls k a0 a1 t101 t102 _ A5.out).mono ?_); rintro e w11 ⟨rfl, hb⟩; refine ⟨_, rfl, ?_⟩; have n0_ := Aside0.mk (below_step (by repeat (first | (with_reducible first | exact HB.out | apply below_alloc | apply pw_below_drewN | apply below_drew1) | exact HB.out)) hb); clear HB; have HB := n0_; clear n0_; (try clear hb); (try clear hb2); (try clear hk); (try clear hi)) | ((with_reducible refine gate_callee (f := 14) rfl ?_); refine goesL_ (some 24) rfl rfl Tryd.func14 (by kernel_rfl) rfl #[.string a0, .string a1] rfl (by (try simp only [List.map_toArray, List.map_cons, List.map_nil]); first | done | rfl | (simp only [List.length_drop, List.length_take]; rfl)) ?_; (with_reducible refine (impl_MilesToKind.calls k a0 a1 t103 t104 _ (T.out.below (by repeat (first | (with_reducible first | exact HB.out | exact Below.refl _ _ | apply below_alloc | apply pw_below_drewN | apply below_drew1) | exact HB.out | exact Below.refl _ _))) A6.out).mono ?_); rintro e w12 ⟨rfl, hb⟩; refine ⟨_, rfl, ?_⟩; have n0_ := Aside0.mk (below_step (by repeat (first | (with_reducible first | exact HB.out | apply below_alloc | apply pw_below_drewN | apply below_drew1) | exact HB.out)) hb); clear HB; have HB := n0_; clear n0_; (try clear hb); (try clear hb2); (try clear hk); (try clear hi)))
          go_ret
          exact ⟨by first | rfl | (simp [errW_none, errW_some] <;> rfl) | (simp [*, errW_none, errW_some] <;> rfl), by repeat (first | (with_reducible first | exact HB.out | apply below_alloc | apply pw_below_drewN | apply below_drew1) | exact HB.out)⟩
      · rw [if_neg c7] at H
        have c7b0 : (t103 == t101) = false := beq_eq_false_iff_ne.mpr c7
        have c7b1 : (t103 != t101) = true := bne_iff_ne.mpr c7
        obtain rfl := Option.some.inj H
        go_enter Tryd.func6, Tryd.ntmps6
        go_wp2_with (first | ((with_reducible refine gate_callee (f := 13) rfl ?_); refine goesL_ (some 18) rfl rfl Tryd.func13 (by kernel_rfl) rfl #[.string a0, .string a1] rfl (by (try simp only [List.map_toArray, List.map_cons, List.map_nil]); first | done | rfl | (simp only [List.length_drop, List.length_take]; rfl)) ?_; (with_reducible refine (spec_MilesToKind.calls k a0 a1 t101 t102 _ A5.out).mono ?_); rintro e w13 ⟨rfl, hb⟩; refine ⟨_, rfl, ?_⟩; have n0_ := Aside0.mk (below_step (by repeat (first | (with_reducible first | exact HB.out | apply below_alloc | apply pw_below_drewN | apply below_drew1) | exact HB.out)) hb); clear HB; have HB := n0_; clear n0_; (try clear hb); (try clear hb2); (try clear hk); (try clear hi)) | ((with_reducible refine gate_callee (f := 14) rfl ?_); refine goesL_ (some 24) rfl rfl Tryd.func14 (by kernel_rfl) rfl #[.string a0, .string a1] rfl (by (try simp only [List.map_toArray, List.map_cons, List.map_nil]); first | done | rfl | (simp only [List.length_drop, List.length_take]; rfl)) ?_; (with_reducible refine (impl_MilesToKind.calls k a0 a1 t103 t104 _ (T.out.below (by repeat (first | (with_reducible first | exact HB.out | exact Below.refl _ _ | apply below_alloc | apply pw_below_drewN | apply below_drew1) | exact HB.out | exact Below.refl _ _))) A6.out).mono ?_); rintro e w14 ⟨rfl, hb⟩; refine ⟨_, rfl, ?_⟩; have n0_ := Aside0.mk (below_step (by repeat (first | (with_reducible first | exact HB.out | apply below_alloc | apply pw_below_drewN | apply below_drew1) | exact HB.out)) hb); clear HB; have HB := n0_; clear n0_; (try clear hb); (try clear hb2); (try clear hk); (try clear hi)))
        go_ret
        exact ⟨by first | rfl | (simp [errW_none, errW_some] <;> rfl) | (simp [*, errW_none, errW_some] <;> rfl), by repeat (first | (with_reducible first | exact HB.out | apply below_alloc | apply pw_below_drewN | apply below_drew1) | exact HB.out)⟩

/-- THE ONE PURE STATEMENT of laws_FnExactMilesToKind: yours. -/
def laws_FnExactMilesToKind.Pure : Prop := ∀ (a0 : ByteArray) (a1 : ByteArray), a0.size ≤ 140737488351232 → a1.size ≤ 140737488351232 → ∃ k, laws_FnExactMilesToKind.f k a0 a1 = some true
theorem laws_FnExactMilesToKind.walk (P : laws_FnExactMilesToKind.Pure) (a0 : ByteArray) (a1 : ByteArray) (w : World) (T0 : Tab w) (w0 : a0.size ≤ 140737488351232) (w1 : a1.size ≤ 140737488351232) :
    Calls Tryd.prog 6 #[.string a0, .string a1] w fun e w' => e = .returned (.bool true) ∧ Below w.heap.size w w' := by
  obtain ⟨k, h⟩ := P a0 a1 w0 w1
  refine (laws_FnExactMilesToKind.calls k a0 a1 true w T0 h).mono ?_
  rintro e w' ⟨rfl, hd⟩
  exact ⟨rfl, hd⟩

end Go.Proofs.YtpdcjkiejglaiaaDoor.Q

/-
  'NextOfKind', the two sides: the reference's answer is the program's.
-/
namespace Go.Proofs.YtpdcjkiejglaiaaDoor.Q
open Go.RowKit Go.Proofs.YtpdcjkiejglaiaaDoorW.PrintWords Go.Proofs.YtpdcjkiejglaiaaDoorW.PrintLast Go.Proofs.YtpdcjkiejglaiaaDoorW.PrintMore
set_option linter.unusedVariables false
set_option linter.unusedSimpArgs false

theorem kt_eq2 (x c : UInt8) : (kt x).toList = (kt c).toList ↔ x = c := by
  rw [ByteArray.toList_eq, ByteArray.toList_eq]
  simp [kt]
theorem hasS_loop (L : List UInt8) (c : UInt8) (hL : L.length ≤ 1000) : ∀ d i, i + d = L.length → Ev (fun k => spec_l1HasS.l0 k (kt c) (L.map kt) (((L.map kt).length : Nat) : Int) (i : Int)) (decide (c ∈ L.drop i))
  | 0, i, h => by
    have hl : (L.map kt).length = L.length := List.length_map ..
    have e : L.drop i = [] := List.drop_eq_nil_of_le (by omega)
    rw [e]
    refine Ev.step (f := fun _ => some false) (fun k => ?_) (Ev.eq (Ev.now _) (by simp))
    simp only [spec_l1HasS.l0]
    rw [if_neg (by omega)]
  | d + 1, i, h => by
    have hl : (L.map kt).length = L.length := List.length_map ..
    have hi : i < L.length := by omega
    have e : L.drop i = L[i] :: L.drop (i + 1) := List.drop_eq_getElem_cons hi
    have hr : rdOf ByteArray.empty (L.map kt) (i : Int) = kt L[i] := by simp [rdOf, List.getD_eq_getElem?_getD, hi]
    rw [e]
    by_cases c0 : L[i] = c
    · refine Ev.step (f := fun _ => some true) (fun k => ?_) (Ev.eq (Ev.now _) (by simp [c0]))
      simp only [spec_l1HasS.l0]
      rw [if_pos (by omega), if_pos (by omega), if_pos (by omega), hr, if_pos ((kt_eq2 _ _).2 c0)]
    · have hw : wrap64 ((i : Int) + 1) = ((i + 1 : Nat) : Int) := by rw [wrap_id (by omega) (by omega)]; rfl
      have ih := hasS_loop L c hL d (i + 1) (by omega)
      rw [← hw] at ih
      refine Ev.step (fun k => ?_) (Ev.eq ih (by rw [decide_eq_decide, List.mem_cons]; exact ⟨.inr, fun h => h.resolve_left (Ne.symm c0)⟩))
      simp only [spec_l1HasS.l0]
      rw [if_pos (by omega), if_pos (by omega), if_pos (by omega), hr, if_neg (fun h => c0 ((kt_eq2 _ _).1 h))]
theorem miKind_ev (a1 : ByteArray) : Ev (fun k => spec_miKind.f k a1) (kindB a1) := by
  unfold spec_miKind.f
  by_cases h : a1.size = 1
  · have hs := one_byte a1 h
    generalize a1.data.toList.getD 0 0 = c at hs
    subst hs
    have key := hasS_loop [97, 109, 117, 114, 102, 100] c (by simp) 6 0 rfl
    refine Ev.pos (by rw [h]; rfl) (Ev.bind' key (Ev.eq (Ev.now _) ?_))
    have h1 := kindB_kt c
    unfold isLetter at h1
    rw [Bool.eq_iff_iff, h1]
    simp
  · refine Ev.neg (by omega) (Ev.eq (Ev.now _) ?_)
    unfold kindB
    rw [decide_eq_false h]
    rfl

/-- what is found: a reading -/
theorem nk_found {a0 a1 : ByteArray} (g : good a0 = true) (hk : kindB a1 = true) :
    ∃ t, Ev (fun k => spec_miNext.f k a0 a1) (outT t) ∧ nkFound a0 (kindOf a1) = t ∧ (∀ x, t = some x → ∃ m, m < 10 ^ a0.size ∧ x = tx a0.size m) := by
  obtain ⟨n1, n9, _⟩ := good_at g
  obtain ⟨v, hv, e0, ev⟩ := good_tx g
  have h1 : a1 = kt (kindOf a1) := one_byte a1 (by unfold kindB at hk; simp only [Bool.and_eq_true, decide_eq_true_eq] at hk; exact hk.1)
  have hl : isLetter (kindOf a1) := by rw [h1] at hk; exact (kindB_kt _).1 hk
  obtain ⟨t, ht, hf, hx⟩ := kind_around (kindOf a1) hl a0.size v n1 n9 hv
  rw [← e0, ← h1] at ht
  refine ⟨t, ht, ?_, hx⟩
  unfold nkFound
  rw [ev]
  exact hf
theorem spec_next_ev (a0 a1 : ByteArray) (h0 : a0.size ≤ 140737488351232) : Ev (fun k => spec_NextOfKind.f k a0 a1) (nkRes a0 a1) := by
  unfold spec_NextOfKind.f
  by_cases g : good a0 = true
  · refine Ev.bind' (miGood_ev a0 h0) (Ev.pos g ?_)
    by_cases hk : kindB a1 = true
    · refine Ev.bind' (miKind_ev a1) (Ev.pos hk ?_)
      obtain ⟨t, ht, hf, hx⟩ := nk_found g hk
      refine Ev.bind' ht (Ev.eq (Ev.now _) ?_)
      unfold nkRes
      rw [if_pos ⟨g, hk⟩, hf]
      obtain ⟨n1, _, _⟩ := good_at g
      cases t with
      | none =>
        have hn : ((⟨#[]⟩ : ByteArray).toList) = ([] : List UInt8) := (toList_nil _).2 rfl
        show ((⟨#[]⟩ : ByteArray), ((⟨#[]⟩ : ByteArray).toList != ([] : List UInt8))) = (⟨#[]⟩, false)
        rw [hn]
        rfl
      | some x =>
        obtain ⟨m, hm, rfl⟩ := hx x rfl
        have hne : ¬ (tx a0.size m).toList = ([] : List UInt8) := fun h => by have := (toList_nil _).1 h; rw [tx_size] at this; omega
        show (tx a0.size m, ((tx a0.size m).toList != ([] : List UInt8))) = (tx a0.size m, true)
        rw [bne_iff_ne.mpr hne]
    · refine Ev.bind' (miKind_ev a1) (Ev.neg hk (Ev.eq (Ev.now _) ?_))
      unfold nkRes
      rw [if_neg (fun h => hk h.2)]
  · refine Ev.bind' (miGood_ev a0 h0) (Ev.neg g (Ev.eq (Ev.now _) ?_))
    unfold nkRes
    rw [if_neg (fun h => g h.1)]
theorem impl_next_eq (a0 a1 : ByteArray) (h0 : a0.size ≤ 140737488351232) : impl_NextOfKind.f a0 a1 = some (nkRes a0 a1) := by
  unfold impl_NextOfKind.f
  rw [if_pos h0]

end Go.Proofs.YtpdcjkiejglaiaaDoor.Q

/-
  Miles from a reading to another.
-/
namespace Go.Proofs.YtpdcjkiejglaiaaDoor.Q
open Go.RowKit Go.Proofs.YtpdcjkiejglaiaaDoorW.PrintWords Go.Proofs.YtpdcjkiejglaiaaDoorW.PrintLast Go.Proofs.YtpdcjkiejglaiaaDoorW.PrintMore
set_option linter.unusedVariables false
set_option linter.unusedSimpArgs false

theorem miTo_arith (P m v : Nat) (hP : 0 < P) (hP9 : P ≤ 1000000000) (hm : m < P) (hv : v < P) : Int.tmod (wrap64 (wrap64 ((m : Int) - (v : Int)) + (P : Int))) (P : Int) = (((m + P - v) % P : Nat) : Int) := by
  rw [wrap_id (i := (m : Int) - v) (by omega) (by omega), wrap_id (by omega) (by omega), show (m : Int) - v + P = ((m + P - v : Nat) : Int) by omega]
  rfl
theorem miTo_ev (n v m : Nat) (h9 : n ≤ 9) (hv : v < 10 ^ n) (hm : m < 10 ^ n) : Ev (fun k => spec_miTo.f k (tx n v) (tx n m)) (((m + 10 ^ n - v) % 10 ^ n : Nat) : Int) := by
  unfold spec_miTo.f
  have hp := pow_le h9
  have hp0 : 0 < 10 ^ n := Nat.pow_pos (by decide)
  have hA := miAll_ev n h9
  rw [tx_size n v]
  refine Ev.bind' hA (Ev.bind' (tk_ev n m h9 hm) (Ev.bind' (tk_ev n v h9 hv) (Ev.neg (by omega) (Ev.eq (Ev.now _) ?_))))
  exact miTo_arith _ _ _ hp0 hp hm hv
theorem milesTo_ev (n v m : Nat) (h9 : n ≤ 9) (hv : v < 10 ^ n) (hm : m < 10 ^ n) : Ev (fun k => impl_milesTo.f k (tx n v) (tx n m)) (((m + 10 ^ n - v) % 10 ^ n : Nat) : Int) := by
  unfold impl_milesTo.f
  have hp := pow_le h9
  have hp0 : 0 < 10 ^ n := Nat.pow_pos (by decide)
  have R := round_ev n h9
  rw [tx_size n v]
  refine Ev.bind' R (Ev.bind' (number_ev n m h9 hm) (Ev.bind' (number_ev n v h9 hv) (Ev.neg (by omega) (Ev.eq (Ev.now _) ?_))))
  exact miTo_arith _ _ _ hp0 hp hm hv
theorem around_zero (P v m : Nat) (hv : v < P) (hm : m < P) : (m + P - v) % P = 0 ↔ m = v := by
  constructor
  · intro h
    by_cases c : m + P - v < P
    · rw [Nat.mod_eq_of_lt c] at h; omega
    · by_cases d : m + P - v = P
      · omega
      · rw [show m + P - v = (m - v) + P by omega, Nat.add_mod_right, Nat.mod_eq_of_lt (by omega)] at h; omega
  · rintro rfl
    rw [show m + P - m = P by omega, Nat.mod_self]
theorem toList_inj' {a b : ByteArray} (h : a.toList = b.toList) : a = b := by
  rw [ByteArray.toList_eq, ByteArray.toList_eq] at h
  obtain ⟨⟨x⟩⟩ := a
  obtain ⟨⟨y⟩⟩ := b
  simp at h
  rw [h]

/-- both tell the same -/
theorem miles_both (a0 a1 : ByteArray) (h0 : a0.size ≤ 140737488351232) : ∃ r, Ev (fun k => spec_MilesToKind.f k a0 a1) r ∧ Ev (fun k => impl_MilesToKind.f k a0 a1) r := by
  have hs := spec_next_ev a0 a1 h0
  have hi := impl_next_eq a0 a1 h0
  unfold spec_MilesToKind.f impl_MilesToKind.f
  rw [hi]
  by_cases gk : good a0 = true ∧ kindB a1 = true
  · obtain ⟨g, hk⟩ := gk
    obtain ⟨n1, n9, _⟩ := good_at g
    obtain ⟨v, hv, e0, ev⟩ := good_tx g
    obtain ⟨t, ht, hf, hx⟩ := nk_found g hk
    have hres : nkRes a0 a1 = (outT t, t.isSome) := by unfold nkRes; rw [if_pos ⟨g, hk⟩, hf]
    rw [hres] at hs ⊢
    cases t with
    | none => exact ⟨(0, false), Ev.bind' hs (Ev.neg (by simp) (Ev.now _)), Ev.bind' (Ev.now _) (Ev.neg (by simp) (Ev.now _))⟩
    | some x =>
      obtain ⟨m, hm, rfl⟩ := hx x rfl
      have m1 := miTo_ev a0.size v m n9 hv hm
      have m2 := milesTo_ev a0.size v m n9 hv hm
      rw [← e0] at m1 m2
      have az := around_zero (10 ^ a0.size) v m hv hm
      have hA := miAll_ev a0.size n9
      have hR := round_ev a0.size n9
      by_cases hmv : m = v
      · refine ⟨(((10 ^ a0.size : Nat) : Int), true), Ev.bind' hs (Ev.pos rfl (Ev.bind' m1 (Ev.pos ?_ (Ev.bind' hA (Ev.now _))))), Ev.bind' (Ev.now _) (Ev.pos rfl (Ev.pos ?_ (Ev.bind' hR (Ev.now _))))⟩
        · have := az.2 hmv; omega
        · show (tx a0.size m).toList = a0.toList
          rw [hmv, ← e0]
      · refine ⟨((((m + 10 ^ a0.size - v) % 10 ^ a0.size : Nat) : Int), true), Ev.bind' hs (Ev.pos rfl (Ev.bind' m1 (Ev.neg ?_ (Ev.now _)))), Ev.bind' (Ev.now _) (Ev.pos rfl (Ev.neg ?_ (Ev.bind' m2 (Ev.now _))))⟩
        · intro h; exact hmv (az.1 (by omega))
        · intro h
          have h2 : tx a0.size m = a0 := toList_inj' h
          have h3 : val (li (tx a0.size m)) = val (li a0) := by rw [h2]
          rw [ev, li_tx, val_dl, Nat.mod_eq_of_lt hm] at h3
          exact hmv h3
  · have hres : nkRes a0 a1 = (⟨#[]⟩, false) := by unfold nkRes; rw [if_neg gk]
    rw [hres] at hs ⊢
    exact ⟨(0, false), Ev.bind' hs (Ev.neg (by simp) (Ev.now _)), Ev.bind' (Ev.now _) (Ev.neg (by simp) (Ev.now _))⟩

end Go.Proofs.YtpdcjkiejglaiaaDoor.Q

namespace Go.Proofs.YtpdcjkiejglaiaaDoor.Pure
open Go.RowKit Go.Proofs.YtpdcjkiejglaiaaDoor.Q Go.Proofs.YtpdcjkiejglaiaaDoorW.PrintWords Go.Proofs.YtpdcjkiejglaiaaDoorW.PrintLast

theorem FnExactMilesToKind : laws_FnExactMilesToKind.Pure := by
  intro a0 a1 h0 h1
  apply Ev.rounds
  unfold laws_FnExactMilesToKind.f
  by_cases c0 : (a0.size : Int) > 1048576
  · exact Ev.pos c0 (Ev.now _)
  refine Ev.neg c0 ?_
  by_cases c1 : (a1.size : Int) > 1048576
  · exact Ev.pos c1 (Ev.now _)
  obtain ⟨r, hs, hi⟩ := miles_both a0 a1 h0
  refine Ev.neg c1 (Ev.bind' hs (Ev.bind' hi (Ev.pos rfl (Ev.neg ?_ (Ev.now _)))))
  simp

end Go.Proofs.YtpdcjkiejglaiaaDoor.Pure
