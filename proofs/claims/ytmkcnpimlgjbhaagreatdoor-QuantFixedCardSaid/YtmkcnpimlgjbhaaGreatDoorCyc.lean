/- Cycle at the five inputs that the law of layer 25 calls it with. -/
import Derived.Test.YtmkcnpimlgjbhaaGreatDoorProg
import Derived.Test.YtmkcnpimlgjbhaaGreatDoorBase
import Derived.Test.YtmkcnpimlgjbhaaGreatDoorQ1
import Derived.Test.YtmkcnpimlgjbhaaGreatDoorQ4
import Derived.Test.YtmkcnpimlgjbhaaGreatDoorQ5
import Derived.WalkKit
import Derived.WalkSpells
import Derived.WalkLawsBesides
import Derived.Handy
import Derived.Deep.QuietTactic
import Derived.BigQuiet
import Derived.StillTailTactics
set_option linter.unusedSimpArgs false
set_option linter.unusedVariables false
namespace Go.Proofs.YtmkcnpimlgjbhaaGreatDoor
open Go.RowKit

theorem kept_lit (n m : Int) (h : keptI n = m) (w : World) : Calls Tryz.prog 21 #[.int .i64 n] w fun e w' => e = .returned (.int .i64 m) ∧ w' = w := by
  subst h
  exact (kept_ n w).mono fun e w' ⟨h1, h2⟩ => ⟨h1, h2.symm⟩
theorem still_tail_drew {P : Program} {id : Nat} {Q : Exit → Act → World → Prop} {a : Act} {w : World} {l : List Oper} (n : Nat) (hm : P.follows .mixedOrders = true) (hB : Region.lexTailB .any l.toArray n = true)
    (h : wpStill P l.toArray w.drew (fun a' => wpList P l.toArray Q (l.drop n) a' w.drew) (l.take n) a) : (Code.region id l.toArray true).wp P Q a w := wp_region_still_tail n hm hB h
/-- the world with another map in block b -/
def putMap (w : World) (b : Nat) (o : Obj) : World := { w with heap := w.heap.setIfInBounds b o }
theorem run_getMap {P : Program} {w : World} {b c : Nat} {es : Array MapEntry} (h : w.heap[b]? = some (.map es c)) : (getObj b).run P w = .ok (.map es c) w := by simp [getObj, Sem.run, h]
theorem run_setMap {P : Program} {w : World} {b c : Nat} {es : Array MapEntry} (h : w.heap[b]? = some (.map es c)) (o : Obj) : (setObj b o).run P w = .ok () (putMap w b o) := by simp [setObj, Sem.run, h, putMap]
theorem putMap_at {w : World} {b : Nat} {o o' : Obj} (h : w.heap[b]? = some o') : (putMap w b o).heap[b]? = some o := by
  have := lt_of_block h
  simp [putMap, this]
theorem putMap_far {w : World} {b k : Nat} {o o' : Obj} (h : w.heap[k]? = some o') (hk : k ≠ b) : (putMap w b o).heap[k]? = some o' := by
  simp [putMap, Array.getElem?_setIfInBounds_ne (Ne.symm hk), h]
theorem putMap_only (S : List Nat) {a w : World} (h : Only S a w) {b : Nat} (hb : b ∈ S ∨ a.heap.size ≤ b) (o : Obj) : Only S a (putMap w b o) :=
  ⟨h.os, h.tape, h.output, by simpa [putMap] using h.size, fun k hk hs => by
    have hkb : k ≠ b := fun e => by
      subst e
      rcases hb with h' | h'
      · exact hs h'
      · omega
    have := h.block k hk hs
    simpa [putMap, Array.getElem?_setIfInBounds_ne (Ne.symm hkb)] using this⟩
theorem up_a_0 (w : World) (b : Nat) (h : w.heap[b]? = some (.map #[] 0)) :
    (Instr.mapUpdate 58 (.map (some b)) (.agg #[.int .i64 0, .int .i64 0, .int .i64 7, .int .i64 0]) (.int .i64 0)).run Tryz.prog w = .ok () (putMap w b (.map #[⟨.agg #[.int .i64 0, .int .i64 0, .int .i64 7, .int .i64 0], .int .i64 0, 0⟩] 1)) := by
  unfold Instr.mapUpdate
  simp only [Sem.run_bind, run_underlying Tryz.underlying58, run_getMap h, Result.andThen]
  refine Eq.trans (b := (setObj b (.map #[⟨.agg #[.int .i64 0, .int .i64 0, .int .i64 7, .int .i64 0], .int .i64 0, 0⟩] 1)).run Tryz.prog w) ?_ (run_setMap h _)
  kernel_rfl
theorem lk_a_1 (w : World) (b : Nat) (h : w.heap[b]? = some (.map #[⟨.agg #[.int .i64 0, .int .i64 0, .int .i64 7, .int .i64 0], .int .i64 0, 0⟩] 1)) :
    (Instr.lookup 58 (.map (some b)) (.agg #[.int .i64 0, .int .i64 0, .int .i64 7, .int .i64 7]) true).run Tryz.prog w = .ok (.tuple #[.int .i64 0, .bool false]) w := by
  unfold Instr.lookup
  simp only [Sem.run_bind, run_underlying Tryz.underlying58, run_getMap h, Result.andThen]
  kernel_rfl
theorem up_a_1 (w : World) (b : Nat) (h : w.heap[b]? = some (.map #[⟨.agg #[.int .i64 0, .int .i64 0, .int .i64 7, .int .i64 0], .int .i64 0, 0⟩] 1)) :
    (Instr.mapUpdate 58 (.map (some b)) (.agg #[.int .i64 0, .int .i64 0, .int .i64 7, .int .i64 7]) (.int .i64 1)).run Tryz.prog w = .ok () (putMap w b (.map #[⟨.agg #[.int .i64 0, .int .i64 0, .int .i64 7, .int .i64 0], .int .i64 0, 0⟩, ⟨.agg #[.int .i64 0, .int .i64 0, .int .i64 7, .int .i64 7], .int .i64 1, 1⟩] 2)) := by
  unfold Instr.mapUpdate
  simp only [Sem.run_bind, run_underlying Tryz.underlying58, run_getMap h, Result.andThen]
  refine Eq.trans (b := (setObj b (.map #[⟨.agg #[.int .i64 0, .int .i64 0, .int .i64 7, .int .i64 0], .int .i64 0, 0⟩, ⟨.agg #[.int .i64 0, .int .i64 0, .int .i64 7, .int .i64 7], .int .i64 1, 1⟩] 2)).run Tryz.prog w) ?_ (run_setMap h _)
  kernel_rfl
theorem lk_a_2 (w : World) (b : Nat) (h : w.heap[b]? = some (.map #[⟨.agg #[.int .i64 0, .int .i64 0, .int .i64 7, .int .i64 0], .int .i64 0, 0⟩, ⟨.agg #[.int .i64 0, .int .i64 0, .int .i64 7, .int .i64 7], .int .i64 1, 1⟩] 2)) :
    (Instr.lookup 58 (.map (some b)) (.agg #[.int .i64 0, .int .i64 0, .int .i64 7, .int .i64 7]) true).run Tryz.prog w = .ok (.tuple #[.int .i64 1, .bool true]) w := by
  unfold Instr.lookup
  simp only [Sem.run_bind, run_underlying Tryz.underlying58, run_getMap h, Result.andThen]
  kernel_rfl
set_option maxRecDepth 20000 in
set_option maxHeartbeats 4000000 in
theorem cyc_a (w : World) : Calls Tryz.prog 11 #[.agg #[.int .i64 1, .int .i64 0, .int .i64 0, .int .i64 0, .int .i64 (-2), .int .i64 0], .agg #[.int .i64 0, .int .i64 0, .int .i64 7, .int .i64 0], .int .i64 2] w fun e w' =>
    e = .returned (.tuple #[.int .i64 1, .int .i64 1, .int .i64 0]) ∧ Only [] w w' := by
  have hmm := @run_makeMap Tryz.prog
  have HS1 := Lib.hid (fun w => show Calls Tryz.prog 12 #[.agg #[.int .i64 1, .int .i64 0, .int .i64 0, .int .i64 0, .int .i64 (-2), .int .i64 0], .agg #[.int .i64 0, .int .i64 0, .int .i64 7, .int .i64 0], .int .i64 0] w (fun e w' => e = .returned (.tuple #[.int .i64 7, .agg #[.int .i64 0, .int .i64 0, .int .i64 7, .int .i64 7], .bool false]) ∧ Only [] w w') from step_m2 0 (.inl rfl) w)
  have HS2 := Lib.hid (fun w => show Calls Tryz.prog 12 #[.agg #[.int .i64 1, .int .i64 0, .int .i64 0, .int .i64 0, .int .i64 (-2), .int .i64 0], .agg #[.int .i64 0, .int .i64 0, .int .i64 7, .int .i64 7], .int .i64 0] w (fun e w' => e = .returned (.tuple #[.int .i64 7, .agg #[.int .i64 0, .int .i64 0, .int .i64 7, .int .i64 7], .bool false]) ∧ Only [] w w') from step_m2 7 (.inr rfl) w)
  go_enter Tryz.func11, Tryz.ntmps11
  go_wp2_with (go_at_call 13; refine (right_yes 1 (by decide) (by decide) _).mono ?_; rintro e w' ⟨rfl, rfl⟩)
  refine still_tail_drew 13 (by kernel_rfl) (by kernel_rfl) ?_
  simp only [List.take_succ_cons, List.take_zero, List.drop_succ_cons, List.drop_zero]
  still_step
  still_step
  still_call (kept_lit 0 0 (by decide) _)
  still_step
  still_step
  still_call (kept_lit 0 0 (by decide) _)
  still_step
  still_step
  still_call (kept_lit 7 7 (by decide) _)
  still_step
  still_step
  still_call (kept_lit 0 0 (by decide) _)
  still_step
  refine wpStill_nil ?_
  go_upto_region 4 with fail
  have hF : (((w.alloc (.cells #[.int .i64 1, .int .i64 0, .int .i64 0, .int .i64 0, .int .i64 (-2), .int .i64 0] 34)).alloc (.cells #[.int .i64 0, .int .i64 0, .int .i64 7, .int .i64 0] 44)).drew).heap[w.heap.size]? = some (.cells #[.int .i64 1, .int .i64 0, .int .i64 0, .int .i64 0, .int .i64 (-2), .int .i64 0] 34 (0, 0)) := block_drew (block_alloc (block_new w _))
  have hS : (((w.alloc (.cells #[.int .i64 1, .int .i64 0, .int .i64 0, .int .i64 0, .int .i64 (-2), .int .i64 0] 34)).alloc (.cells #[.int .i64 0, .int .i64 0, .int .i64 7, .int .i64 0] 44)).drew).heap[w.heap.size + 1]? = some (.cells #[.int .i64 0, .int .i64 0, .int .i64 7, .int .i64 0] 44 (0, 0)) := block_drew (by simpa using block_new (w.alloc (.cells #[.int .i64 1, .int .i64 0, .int .i64 0, .int .i64 0, .int .i64 (-2), .int .i64 0] 34)) (.cells #[.int .i64 0, .int .i64 0, .int .i64 7, .int .i64 0] 44))
  have hO : Only [] w (((w.alloc (.cells #[.int .i64 1, .int .i64 0, .int .i64 0, .int .i64 0, .int .i64 (-2), .int .i64 0] 34)).alloc (.cells #[.int .i64 0, .int .i64 0, .int .i64 7, .int .i64 0] 44)).drew) := (((Only.refl [] w).alloc _).alloc _).drew
  have hz : w.heap.size + 2 ≤ (((w.alloc (.cells #[.int .i64 1, .int .i64 0, .int .i64 0, .int .i64 0, .int .i64 (-2), .int .i64 0] 34)).alloc (.cells #[.int .i64 0, .int .i64 0, .int .i64 7, .int .i64 0] 44)).drew).heap.size := by simp
  generalize (((w.alloc (.cells #[.int .i64 1, .int .i64 0, .int .i64 0, .int .i64 0, .int .i64 (-2), .int .i64 0] 34)).alloc (.cells #[.int .i64 0, .int .i64 0, .int .i64 7, .int .i64 0] 44)).drew) = w3 at *
  have c0 := cell_old (o := .map #[] 0) (cell_of hS 0 rfl)
  have c1 := cell_old (o := .map #[] 0) (cell_of hS 1 rfl)
  have c2 := cell_old (o := .map #[] 0) (cell_of hS 2 rfl)
  have c3 := cell_old (o := .map #[] 0) (cell_of hS 3 rfl)
  have hu := up_a_0 (w3.alloc (.map #[] 0)) w3.heap.size (block_new w3 _)
  have QF := Lib.hid (putMap_far (o := .map #[⟨.agg #[.int .i64 0, .int .i64 0, .int .i64 7, .int .i64 0], .int .i64 0, 0⟩] 1) (b := w3.heap.size) (block_alloc (o' := .map #[] 0) hF) (by omega))
  have QS := Lib.hid (putMap_far (o := .map #[⟨.agg #[.int .i64 0, .int .i64 0, .int .i64 7, .int .i64 0], .int .i64 0, 0⟩] 1) (b := w3.heap.size) (block_alloc (o' := .map #[] 0) hS) (by omega))
  have QM := Lib.hid (putMap_at (o := .map #[⟨.agg #[.int .i64 0, .int .i64 0, .int .i64 7, .int .i64 0], .int .i64 0, 0⟩] 1) (block_new w3 (.map #[] 0)))
  have QO := Lib.hid (putMap_only [] (hO.alloc (.map #[] 0)) (b := w3.heap.size) (.inr (by omega)) (.map #[⟨.agg #[.int .i64 0, .int .i64 0, .int .i64 7, .int .i64 0], .int .i64 0, 0⟩] 1))
  clear hF hS hO
  go_upto_region 5 with fail
  clear c0 c1 c2 c3 hu
  generalize putMap (w3.alloc (.map #[] 0)) w3.heap.size (.map #[⟨.agg #[.int .i64 0, .int .i64 0, .int .i64 7, .int .i64 0], .int .i64 0, 0⟩] 1) = v0 at *
  go_wp2_with fail
  refine wp_loop_rounds 3 ?_
  rw [rounds_succ]
  have g0 := cell_of QF.out 0 rfl
  have g1 := cell_of QF.out 1 rfl
  have g2 := cell_of QF.out 2 rfl
  have g3 := cell_of QF.out 3 rfl
  have g4 := cell_of QF.out 4 rfl
  have g5 := cell_of QF.out 5 rfl
  have c0 := cell_of QS.out 0 rfl
  have c1 := cell_of QS.out 1 rfl
  have c2 := cell_of QS.out 2 rfl
  have c3 := cell_of QS.out 3 rfl
  go_upto_region 9 with (go_at_call 12; refine (HS1.out _).mono ?_; rintro e w10 ⟨rfl, O⟩; have hS2 := O.at QS.out (by simp); have d0 := cell_of hS2 0 rfl; have d1 := cell_of hS2 1 rfl; have d2 := cell_of hS2 2 rfl; have d3 := cell_of hS2 3 rfl; have f0 := free_of hS2 0; have f1 := free_of hS2 1; have f2 := free_of hS2 2; have f3 := free_of hS2 3; have HO := Lib.hid O; have HS2 := Lib.hid hS2; clear O hS2)
  clear g0 g1 g2 g3 g4 g5 c0 c1 c2 c3 d0 d1 d2 d3 f0 f1 f2 f3
  have nS : ((((w10.setCell ⟨w.heap.size + 1, 0, none⟩ (.int .i64 0)).setCell ⟨w.heap.size + 1, 1, none⟩ (.int .i64 0)).setCell ⟨w.heap.size + 1, 2, none⟩ (.int .i64 7)).setCell ⟨w.heap.size + 1, 3, none⟩ (.int .i64 7)).heap[w.heap.size + 1]? = some (.cells #[.int .i64 0, .int .i64 0, .int .i64 7, .int .i64 7] 44 (0, 0)) := block_setCell (block_setCell (block_setCell (block_setCell HS2.out 0 _) 1 _) 2 _) 3 _
  have nF := block_far (a := ⟨w.heap.size + 1, 3, none⟩) (v := .int .i64 7) (block_far (a := ⟨w.heap.size + 1, 2, none⟩) (v := .int .i64 7) (block_far (a := ⟨w.heap.size + 1, 1, none⟩) (v := .int .i64 0) (block_far (a := ⟨w.heap.size + 1, 0, none⟩) (v := .int .i64 0) (HO.out.at QF.out (by simp)) (by simp)) (by simp)) (by simp)) (by simp)
  have nM := block_far (a := ⟨w.heap.size + 1, 3, none⟩) (v := .int .i64 7) (block_far (a := ⟨w.heap.size + 1, 2, none⟩) (v := .int .i64 7) (block_far (a := ⟨w.heap.size + 1, 1, none⟩) (v := .int .i64 0) (block_far (a := ⟨w.heap.size + 1, 0, none⟩) (v := .int .i64 0) (HO.out.at QM.out (by simp)) (by simp; omega)) (by simp; omega)) (by simp; omega)) (by simp; omega)
  have nO : Only [] w ((((w10.setCell ⟨w.heap.size + 1, 0, none⟩ (.int .i64 0)).setCell ⟨w.heap.size + 1, 1, none⟩ (.int .i64 0)).setCell ⟨w.heap.size + 1, 2, none⟩ (.int .i64 7)).setCell ⟨w.heap.size + 1, 3, none⟩ (.int .i64 7)) := ((((QO.out.trans HO.out).setCell (.inr (by simp)) _).setCell (.inr (by simp)) _).setCell (.inr (by simp)) _).setCell (.inr (by simp)) _
  clear QF QS QM QO HO HS2
  generalize ((((w10.setCell ⟨w.heap.size + 1, 0, none⟩ (.int .i64 0)).setCell ⟨w.heap.size + 1, 1, none⟩ (.int .i64 0)).setCell ⟨w.heap.size + 1, 2, none⟩ (.int .i64 7)).setCell ⟨w.heap.size + 1, 3, none⟩ (.int .i64 7)) = x1 at *
  have hl := lk_a_1 x1 w3.heap.size nM
  have c0 := cell_of nS 0 rfl
  have c1 := cell_of nS 1 rfl
  have c2 := cell_of nS 2 rfl
  have c3 := cell_of nS 3 rfl
  have hu := up_a_1 x1 w3.heap.size nM
  have QF := Lib.hid (putMap_far (o := .map #[⟨.agg #[.int .i64 0, .int .i64 0, .int .i64 7, .int .i64 0], .int .i64 0, 0⟩, ⟨.agg #[.int .i64 0, .int .i64 0, .int .i64 7, .int .i64 7], .int .i64 1, 1⟩] 2) (b := w3.heap.size) nF (by omega))
  have QS := Lib.hid (putMap_far (o := .map #[⟨.agg #[.int .i64 0, .int .i64 0, .int .i64 7, .int .i64 0], .int .i64 0, 0⟩, ⟨.agg #[.int .i64 0, .int .i64 0, .int .i64 7, .int .i64 7], .int .i64 1, 1⟩] 2) (b := w3.heap.size) nS (by omega))
  have QM := Lib.hid (putMap_at (o := .map #[⟨.agg #[.int .i64 0, .int .i64 0, .int .i64 7, .int .i64 0], .int .i64 0, 0⟩, ⟨.agg #[.int .i64 0, .int .i64 0, .int .i64 7, .int .i64 7], .int .i64 1, 1⟩] 2) nM)
  have QO := Lib.hid (putMap_only [] nO (b := w3.heap.size) (.inr (by omega)) (.map #[⟨.agg #[.int .i64 0, .int .i64 0, .int .i64 7, .int .i64 0], .int .i64 0, 0⟩, ⟨.agg #[.int .i64 0, .int .i64 0, .int .i64 7, .int .i64 7], .int .i64 1, 1⟩] 2))
  clear nF nS nM nO
  go_wp2_with fail
  clear hl hu c0 c1 c2 c3
  generalize putMap x1 w3.heap.size (.map #[⟨.agg #[.int .i64 0, .int .i64 0, .int .i64 7, .int .i64 0], .int .i64 0, 0⟩, ⟨.agg #[.int .i64 0, .int .i64 0, .int .i64 7, .int .i64 7], .int .i64 1, 1⟩] 2) = v1 at *
  rw [rounds_succ]
  have g0 := cell_of QF.out 0 rfl
  have g1 := cell_of QF.out 1 rfl
  have g2 := cell_of QF.out 2 rfl
  have g3 := cell_of QF.out 3 rfl
  have g4 := cell_of QF.out 4 rfl
  have g5 := cell_of QF.out 5 rfl
  have c0 := cell_of QS.out 0 rfl
  have c1 := cell_of QS.out 1 rfl
  have c2 := cell_of QS.out 2 rfl
  have c3 := cell_of QS.out 3 rfl
  go_upto_region 9 with (go_at_call 12; refine (HS2.out _).mono ?_; rintro e w11 ⟨rfl, O⟩; have hS2 := O.at QS.out (by simp); have d0 := cell_of hS2 0 rfl; have d1 := cell_of hS2 1 rfl; have d2 := cell_of hS2 2 rfl; have d3 := cell_of hS2 3 rfl; have f0 := free_of hS2 0; have f1 := free_of hS2 1; have f2 := free_of hS2 2; have f3 := free_of hS2 3; have HO := Lib.hid O; have HS2 := Lib.hid hS2; clear O hS2)
  clear g0 g1 g2 g3 g4 g5 c0 c1 c2 c3 d0 d1 d2 d3 f0 f1 f2 f3
  have nS : ((((w11.setCell ⟨w.heap.size + 1, 0, none⟩ (.int .i64 0)).setCell ⟨w.heap.size + 1, 1, none⟩ (.int .i64 0)).setCell ⟨w.heap.size + 1, 2, none⟩ (.int .i64 7)).setCell ⟨w.heap.size + 1, 3, none⟩ (.int .i64 7)).heap[w.heap.size + 1]? = some (.cells #[.int .i64 0, .int .i64 0, .int .i64 7, .int .i64 7] 44 (0, 0)) := block_setCell (block_setCell (block_setCell (block_setCell HS2.out 0 _) 1 _) 2 _) 3 _
  have nF := block_far (a := ⟨w.heap.size + 1, 3, none⟩) (v := .int .i64 7) (block_far (a := ⟨w.heap.size + 1, 2, none⟩) (v := .int .i64 7) (block_far (a := ⟨w.heap.size + 1, 1, none⟩) (v := .int .i64 0) (block_far (a := ⟨w.heap.size + 1, 0, none⟩) (v := .int .i64 0) (HO.out.at QF.out (by simp)) (by simp)) (by simp)) (by simp)) (by simp)
  have nM := block_far (a := ⟨w.heap.size + 1, 3, none⟩) (v := .int .i64 7) (block_far (a := ⟨w.heap.size + 1, 2, none⟩) (v := .int .i64 7) (block_far (a := ⟨w.heap.size + 1, 1, none⟩) (v := .int .i64 0) (block_far (a := ⟨w.heap.size + 1, 0, none⟩) (v := .int .i64 0) (HO.out.at QM.out (by simp)) (by simp; omega)) (by simp; omega)) (by simp; omega)) (by simp; omega)
  have nO : Only [] w ((((w11.setCell ⟨w.heap.size + 1, 0, none⟩ (.int .i64 0)).setCell ⟨w.heap.size + 1, 1, none⟩ (.int .i64 0)).setCell ⟨w.heap.size + 1, 2, none⟩ (.int .i64 7)).setCell ⟨w.heap.size + 1, 3, none⟩ (.int .i64 7)) := ((((QO.out.trans HO.out).setCell (.inr (by simp)) _).setCell (.inr (by simp)) _).setCell (.inr (by simp)) _).setCell (.inr (by simp)) _
  clear QF QS QM QO HO HS2
  generalize ((((w11.setCell ⟨w.heap.size + 1, 0, none⟩ (.int .i64 0)).setCell ⟨w.heap.size + 1, 1, none⟩ (.int .i64 0)).setCell ⟨w.heap.size + 1, 2, none⟩ (.int .i64 7)).setCell ⟨w.heap.size + 1, 3, none⟩ (.int .i64 7)) = x2 at *
  have hl := lk_a_2 x2 w3.heap.size nM
  have c0 := cell_of nS 0 rfl
  have c1 := cell_of nS 1 rfl
  have c2 := cell_of nS 2 rfl
  have c3 := cell_of nS 3 rfl
  have QO := Lib.hid nO
  clear nF nS nM nO
  go_wp2_with fail
  go_ret3
  exact ⟨rfl, QO.out⟩
theorem up_b_0 (w : World) (b : Nat) (h : w.heap[b]? = some (.map #[] 0)) :
    (Instr.mapUpdate 58 (.map (some b)) (.agg #[.int .i64 0, .int .i64 0, .int .i64 7, .int .i64 0]) (.int .i64 0)).run Tryz.prog w = .ok () (putMap w b (.map #[⟨.agg #[.int .i64 0, .int .i64 0, .int .i64 7, .int .i64 0], .int .i64 0, 0⟩] 1)) := by
  unfold Instr.mapUpdate
  simp only [Sem.run_bind, run_underlying Tryz.underlying58, run_getMap h, Result.andThen]
  refine Eq.trans (b := (setObj b (.map #[⟨.agg #[.int .i64 0, .int .i64 0, .int .i64 7, .int .i64 0], .int .i64 0, 0⟩] 1)).run Tryz.prog w) ?_ (run_setMap h _)
  kernel_rfl
theorem lk_b_1 (w : World) (b : Nat) (h : w.heap[b]? = some (.map #[⟨.agg #[.int .i64 0, .int .i64 0, .int .i64 7, .int .i64 0], .int .i64 0, 0⟩] 1)) :
    (Instr.lookup 58 (.map (some b)) (.agg #[.int .i64 0, .int .i64 0, .int .i64 (-7), .int .i64 7]) true).run Tryz.prog w = .ok (.tuple #[.int .i64 0, .bool false]) w := by
  unfold Instr.lookup
  simp only [Sem.run_bind, run_underlying Tryz.underlying58, run_getMap h, Result.andThen]
  kernel_rfl
theorem up_b_1 (w : World) (b : Nat) (h : w.heap[b]? = some (.map #[⟨.agg #[.int .i64 0, .int .i64 0, .int .i64 7, .int .i64 0], .int .i64 0, 0⟩] 1)) :
    (Instr.mapUpdate 58 (.map (some b)) (.agg #[.int .i64 0, .int .i64 0, .int .i64 (-7), .int .i64 7]) (.int .i64 1)).run Tryz.prog w = .ok () (putMap w b (.map #[⟨.agg #[.int .i64 0, .int .i64 0, .int .i64 7, .int .i64 0], .int .i64 0, 0⟩, ⟨.agg #[.int .i64 0, .int .i64 0, .int .i64 (-7), .int .i64 7], .int .i64 1, 1⟩] 2)) := by
  unfold Instr.mapUpdate
  simp only [Sem.run_bind, run_underlying Tryz.underlying58, run_getMap h, Result.andThen]
  refine Eq.trans (b := (setObj b (.map #[⟨.agg #[.int .i64 0, .int .i64 0, .int .i64 7, .int .i64 0], .int .i64 0, 0⟩, ⟨.agg #[.int .i64 0, .int .i64 0, .int .i64 (-7), .int .i64 7], .int .i64 1, 1⟩] 2)).run Tryz.prog w) ?_ (run_setMap h _)
  kernel_rfl
theorem lk_b_2 (w : World) (b : Nat) (h : w.heap[b]? = some (.map #[⟨.agg #[.int .i64 0, .int .i64 0, .int .i64 7, .int .i64 0], .int .i64 0, 0⟩, ⟨.agg #[.int .i64 0, .int .i64 0, .int .i64 (-7), .int .i64 7], .int .i64 1, 1⟩] 2)) :
    (Instr.lookup 58 (.map (some b)) (.agg #[.int .i64 0, .int .i64 0, .int .i64 7, .int .i64 (-7)]) true).run Tryz.prog w = .ok (.tuple #[.int .i64 0, .bool false]) w := by
  unfold Instr.lookup
  simp only [Sem.run_bind, run_underlying Tryz.underlying58, run_getMap h, Result.andThen]
  kernel_rfl
theorem up_b_2 (w : World) (b : Nat) (h : w.heap[b]? = some (.map #[⟨.agg #[.int .i64 0, .int .i64 0, .int .i64 7, .int .i64 0], .int .i64 0, 0⟩, ⟨.agg #[.int .i64 0, .int .i64 0, .int .i64 (-7), .int .i64 7], .int .i64 1, 1⟩] 2)) :
    (Instr.mapUpdate 58 (.map (some b)) (.agg #[.int .i64 0, .int .i64 0, .int .i64 7, .int .i64 (-7)]) (.int .i64 2)).run Tryz.prog w = .ok () (putMap w b (.map #[⟨.agg #[.int .i64 0, .int .i64 0, .int .i64 7, .int .i64 0], .int .i64 0, 0⟩, ⟨.agg #[.int .i64 0, .int .i64 0, .int .i64 (-7), .int .i64 7], .int .i64 1, 1⟩, ⟨.agg #[.int .i64 0, .int .i64 0, .int .i64 7, .int .i64 (-7)], .int .i64 2, 2⟩] 3)) := by
  unfold Instr.mapUpdate
  simp only [Sem.run_bind, run_underlying Tryz.underlying58, run_getMap h, Result.andThen]
  refine Eq.trans (b := (setObj b (.map #[⟨.agg #[.int .i64 0, .int .i64 0, .int .i64 7, .int .i64 0], .int .i64 0, 0⟩, ⟨.agg #[.int .i64 0, .int .i64 0, .int .i64 (-7), .int .i64 7], .int .i64 1, 1⟩, ⟨.agg #[.int .i64 0, .int .i64 0, .int .i64 7, .int .i64 (-7)], .int .i64 2, 2⟩] 3)).run Tryz.prog w) ?_ (run_setMap h _)
  kernel_rfl
theorem lk_b_3 (w : World) (b : Nat) (h : w.heap[b]? = some (.map #[⟨.agg #[.int .i64 0, .int .i64 0, .int .i64 7, .int .i64 0], .int .i64 0, 0⟩, ⟨.agg #[.int .i64 0, .int .i64 0, .int .i64 (-7), .int .i64 7], .int .i64 1, 1⟩, ⟨.agg #[.int .i64 0, .int .i64 0, .int .i64 7, .int .i64 (-7)], .int .i64 2, 2⟩] 3)) :
    (Instr.lookup 58 (.map (some b)) (.agg #[.int .i64 0, .int .i64 0, .int .i64 (-7), .int .i64 7]) true).run Tryz.prog w = .ok (.tuple #[.int .i64 1, .bool true]) w := by
  unfold Instr.lookup
  simp only [Sem.run_bind, run_underlying Tryz.underlying58, run_getMap h, Result.andThen]
  kernel_rfl
set_option maxRecDepth 20000 in
set_option maxHeartbeats 4000000 in
theorem cyc_b (w : World) : Calls Tryz.prog 11 #[.agg #[.int .i64 1, .int .i64 0, .int .i64 0, .int .i64 0, .int .i64 2, .int .i64 0], .agg #[.int .i64 0, .int .i64 0, .int .i64 7, .int .i64 0], .int .i64 3] w fun e w' =>
    e = .returned (.tuple #[.int .i64 1, .int .i64 2, .int .i64 0]) ∧ Only [] w w' := by
  have hmm := @run_makeMap Tryz.prog
  have HS1 := Lib.hid (fun w => show Calls Tryz.prog 12 #[.agg #[.int .i64 1, .int .i64 0, .int .i64 0, .int .i64 0, .int .i64 2, .int .i64 0], .agg #[.int .i64 0, .int .i64 0, .int .i64 7, .int .i64 0], .int .i64 0] w (fun e w' => e = .returned (.tuple #[.int .i64 (-7), .agg #[.int .i64 0, .int .i64 0, .int .i64 (-7), .int .i64 7], .bool false]) ∧ Only [] w w') from step_p2 0 (.inl rfl) w)
  have HS2 := Lib.hid (fun w => show Calls Tryz.prog 12 #[.agg #[.int .i64 1, .int .i64 0, .int .i64 0, .int .i64 0, .int .i64 2, .int .i64 0], .agg #[.int .i64 0, .int .i64 0, .int .i64 (-7), .int .i64 7], .int .i64 0] w (fun e w' => e = .returned (.tuple #[.int .i64 7, .agg #[.int .i64 0, .int .i64 0, .int .i64 7, .int .i64 (-7)], .bool false]) ∧ Only [] w w') from step_n2 w)
  have HS3 := Lib.hid (fun w => show Calls Tryz.prog 12 #[.agg #[.int .i64 1, .int .i64 0, .int .i64 0, .int .i64 0, .int .i64 2, .int .i64 0], .agg #[.int .i64 0, .int .i64 0, .int .i64 7, .int .i64 (-7)], .int .i64 0] w (fun e w' => e = .returned (.tuple #[.int .i64 (-7), .agg #[.int .i64 0, .int .i64 0, .int .i64 (-7), .int .i64 7], .bool false]) ∧ Only [] w w') from step_p2 (-7) (.inr rfl) w)
  go_enter Tryz.func11, Tryz.ntmps11
  go_wp2_with (go_at_call 13; refine (right_yes 1 (by decide) (by decide) _).mono ?_; rintro e w' ⟨rfl, rfl⟩)
  refine still_tail_drew 13 (by kernel_rfl) (by kernel_rfl) ?_
  simp only [List.take_succ_cons, List.take_zero, List.drop_succ_cons, List.drop_zero]
  still_step
  still_step
  still_call (kept_lit 0 0 (by decide) _)
  still_step
  still_step
  still_call (kept_lit 0 0 (by decide) _)
  still_step
  still_step
  still_call (kept_lit 7 7 (by decide) _)
  still_step
  still_step
  still_call (kept_lit 0 0 (by decide) _)
  still_step
  refine wpStill_nil ?_
  go_upto_region 4 with fail
  have hF : (((w.alloc (.cells #[.int .i64 1, .int .i64 0, .int .i64 0, .int .i64 0, .int .i64 2, .int .i64 0] 34)).alloc (.cells #[.int .i64 0, .int .i64 0, .int .i64 7, .int .i64 0] 44)).drew).heap[w.heap.size]? = some (.cells #[.int .i64 1, .int .i64 0, .int .i64 0, .int .i64 0, .int .i64 2, .int .i64 0] 34 (0, 0)) := block_drew (block_alloc (block_new w _))
  have hS : (((w.alloc (.cells #[.int .i64 1, .int .i64 0, .int .i64 0, .int .i64 0, .int .i64 2, .int .i64 0] 34)).alloc (.cells #[.int .i64 0, .int .i64 0, .int .i64 7, .int .i64 0] 44)).drew).heap[w.heap.size + 1]? = some (.cells #[.int .i64 0, .int .i64 0, .int .i64 7, .int .i64 0] 44 (0, 0)) := block_drew (by simpa using block_new (w.alloc (.cells #[.int .i64 1, .int .i64 0, .int .i64 0, .int .i64 0, .int .i64 2, .int .i64 0] 34)) (.cells #[.int .i64 0, .int .i64 0, .int .i64 7, .int .i64 0] 44))
  have hO : Only [] w (((w.alloc (.cells #[.int .i64 1, .int .i64 0, .int .i64 0, .int .i64 0, .int .i64 2, .int .i64 0] 34)).alloc (.cells #[.int .i64 0, .int .i64 0, .int .i64 7, .int .i64 0] 44)).drew) := (((Only.refl [] w).alloc _).alloc _).drew
  have hz : w.heap.size + 2 ≤ (((w.alloc (.cells #[.int .i64 1, .int .i64 0, .int .i64 0, .int .i64 0, .int .i64 2, .int .i64 0] 34)).alloc (.cells #[.int .i64 0, .int .i64 0, .int .i64 7, .int .i64 0] 44)).drew).heap.size := by simp
  generalize (((w.alloc (.cells #[.int .i64 1, .int .i64 0, .int .i64 0, .int .i64 0, .int .i64 2, .int .i64 0] 34)).alloc (.cells #[.int .i64 0, .int .i64 0, .int .i64 7, .int .i64 0] 44)).drew) = w3 at *
  have c0 := cell_old (o := .map #[] 0) (cell_of hS 0 rfl)
  have c1 := cell_old (o := .map #[] 0) (cell_of hS 1 rfl)
  have c2 := cell_old (o := .map #[] 0) (cell_of hS 2 rfl)
  have c3 := cell_old (o := .map #[] 0) (cell_of hS 3 rfl)
  have hu := up_b_0 (w3.alloc (.map #[] 0)) w3.heap.size (block_new w3 _)
  have QF := Lib.hid (putMap_far (o := .map #[⟨.agg #[.int .i64 0, .int .i64 0, .int .i64 7, .int .i64 0], .int .i64 0, 0⟩] 1) (b := w3.heap.size) (block_alloc (o' := .map #[] 0) hF) (by omega))
  have QS := Lib.hid (putMap_far (o := .map #[⟨.agg #[.int .i64 0, .int .i64 0, .int .i64 7, .int .i64 0], .int .i64 0, 0⟩] 1) (b := w3.heap.size) (block_alloc (o' := .map #[] 0) hS) (by omega))
  have QM := Lib.hid (putMap_at (o := .map #[⟨.agg #[.int .i64 0, .int .i64 0, .int .i64 7, .int .i64 0], .int .i64 0, 0⟩] 1) (block_new w3 (.map #[] 0)))
  have QO := Lib.hid (putMap_only [] (hO.alloc (.map #[] 0)) (b := w3.heap.size) (.inr (by omega)) (.map #[⟨.agg #[.int .i64 0, .int .i64 0, .int .i64 7, .int .i64 0], .int .i64 0, 0⟩] 1))
  clear hF hS hO
  go_upto_region 5 with fail
  clear c0 c1 c2 c3 hu
  generalize putMap (w3.alloc (.map #[] 0)) w3.heap.size (.map #[⟨.agg #[.int .i64 0, .int .i64 0, .int .i64 7, .int .i64 0], .int .i64 0, 0⟩] 1) = v0 at *
  go_wp2_with fail
  refine wp_loop_rounds 4 ?_
  rw [rounds_succ]
  have g0 := cell_of QF.out 0 rfl
  have g1 := cell_of QF.out 1 rfl
  have g2 := cell_of QF.out 2 rfl
  have g3 := cell_of QF.out 3 rfl
  have g4 := cell_of QF.out 4 rfl
  have g5 := cell_of QF.out 5 rfl
  have c0 := cell_of QS.out 0 rfl
  have c1 := cell_of QS.out 1 rfl
  have c2 := cell_of QS.out 2 rfl
  have c3 := cell_of QS.out 3 rfl
  go_upto_region 9 with (go_at_call 12; refine (HS1.out _).mono ?_; rintro e w10 ⟨rfl, O⟩; have hS2 := O.at QS.out (by simp); have d0 := cell_of hS2 0 rfl; have d1 := cell_of hS2 1 rfl; have d2 := cell_of hS2 2 rfl; have d3 := cell_of hS2 3 rfl; have f0 := free_of hS2 0; have f1 := free_of hS2 1; have f2 := free_of hS2 2; have f3 := free_of hS2 3; have HO := Lib.hid O; have HS2 := Lib.hid hS2; clear O hS2)
  clear g0 g1 g2 g3 g4 g5 c0 c1 c2 c3 d0 d1 d2 d3 f0 f1 f2 f3
  have nS : ((((w10.setCell ⟨w.heap.size + 1, 0, none⟩ (.int .i64 0)).setCell ⟨w.heap.size + 1, 1, none⟩ (.int .i64 0)).setCell ⟨w.heap.size + 1, 2, none⟩ (.int .i64 (-7))).setCell ⟨w.heap.size + 1, 3, none⟩ (.int .i64 7)).heap[w.heap.size + 1]? = some (.cells #[.int .i64 0, .int .i64 0, .int .i64 (-7), .int .i64 7] 44 (0, 0)) := block_setCell (block_setCell (block_setCell (block_setCell HS2.out 0 _) 1 _) 2 _) 3 _
  have nF := block_far (a := ⟨w.heap.size + 1, 3, none⟩) (v := .int .i64 7) (block_far (a := ⟨w.heap.size + 1, 2, none⟩) (v := .int .i64 (-7)) (block_far (a := ⟨w.heap.size + 1, 1, none⟩) (v := .int .i64 0) (block_far (a := ⟨w.heap.size + 1, 0, none⟩) (v := .int .i64 0) (HO.out.at QF.out (by simp)) (by simp)) (by simp)) (by simp)) (by simp)
  have nM := block_far (a := ⟨w.heap.size + 1, 3, none⟩) (v := .int .i64 7) (block_far (a := ⟨w.heap.size + 1, 2, none⟩) (v := .int .i64 (-7)) (block_far (a := ⟨w.heap.size + 1, 1, none⟩) (v := .int .i64 0) (block_far (a := ⟨w.heap.size + 1, 0, none⟩) (v := .int .i64 0) (HO.out.at QM.out (by simp)) (by simp; omega)) (by simp; omega)) (by simp; omega)) (by simp; omega)
  have nO : Only [] w ((((w10.setCell ⟨w.heap.size + 1, 0, none⟩ (.int .i64 0)).setCell ⟨w.heap.size + 1, 1, none⟩ (.int .i64 0)).setCell ⟨w.heap.size + 1, 2, none⟩ (.int .i64 (-7))).setCell ⟨w.heap.size + 1, 3, none⟩ (.int .i64 7)) := ((((QO.out.trans HO.out).setCell (.inr (by simp)) _).setCell (.inr (by simp)) _).setCell (.inr (by simp)) _).setCell (.inr (by simp)) _
  clear QF QS QM QO HO HS2
  generalize ((((w10.setCell ⟨w.heap.size + 1, 0, none⟩ (.int .i64 0)).setCell ⟨w.heap.size + 1, 1, none⟩ (.int .i64 0)).setCell ⟨w.heap.size + 1, 2, none⟩ (.int .i64 (-7))).setCell ⟨w.heap.size + 1, 3, none⟩ (.int .i64 7)) = x1 at *
  have hl := lk_b_1 x1 w3.heap.size nM
  have c0 := cell_of nS 0 rfl
  have c1 := cell_of nS 1 rfl
  have c2 := cell_of nS 2 rfl
  have c3 := cell_of nS 3 rfl
  have hu := up_b_1 x1 w3.heap.size nM
  have QF := Lib.hid (putMap_far (o := .map #[⟨.agg #[.int .i64 0, .int .i64 0, .int .i64 7, .int .i64 0], .int .i64 0, 0⟩, ⟨.agg #[.int .i64 0, .int .i64 0, .int .i64 (-7), .int .i64 7], .int .i64 1, 1⟩] 2) (b := w3.heap.size) nF (by omega))
  have QS := Lib.hid (putMap_far (o := .map #[⟨.agg #[.int .i64 0, .int .i64 0, .int .i64 7, .int .i64 0], .int .i64 0, 0⟩, ⟨.agg #[.int .i64 0, .int .i64 0, .int .i64 (-7), .int .i64 7], .int .i64 1, 1⟩] 2) (b := w3.heap.size) nS (by omega))
  have QM := Lib.hid (putMap_at (o := .map #[⟨.agg #[.int .i64 0, .int .i64 0, .int .i64 7, .int .i64 0], .int .i64 0, 0⟩, ⟨.agg #[.int .i64 0, .int .i64 0, .int .i64 (-7), .int .i64 7], .int .i64 1, 1⟩] 2) nM)
  have QO := Lib.hid (putMap_only [] nO (b := w3.heap.size) (.inr (by omega)) (.map #[⟨.agg #[.int .i64 0, .int .i64 0, .int .i64 7, .int .i64 0], .int .i64 0, 0⟩, ⟨.agg #[.int .i64 0, .int .i64 0, .int .i64 (-7), .int .i64 7], .int .i64 1, 1⟩] 2))
  clear nF nS nM nO
  go_wp2_with fail
  clear hl hu c0 c1 c2 c3
  generalize putMap x1 w3.heap.size (.map #[⟨.agg #[.int .i64 0, .int .i64 0, .int .i64 7, .int .i64 0], .int .i64 0, 0⟩, ⟨.agg #[.int .i64 0, .int .i64 0, .int .i64 (-7), .int .i64 7], .int .i64 1, 1⟩] 2) = v1 at *
  rw [rounds_succ]
  have g0 := cell_of QF.out 0 rfl
  have g1 := cell_of QF.out 1 rfl
  have g2 := cell_of QF.out 2 rfl
  have g3 := cell_of QF.out 3 rfl
  have g4 := cell_of QF.out 4 rfl
  have g5 := cell_of QF.out 5 rfl
  have c0 := cell_of QS.out 0 rfl
  have c1 := cell_of QS.out 1 rfl
  have c2 := cell_of QS.out 2 rfl
  have c3 := cell_of QS.out 3 rfl
  go_upto_region 9 with (go_at_call 12; refine (HS2.out _).mono ?_; rintro e w11 ⟨rfl, O⟩; have hS2 := O.at QS.out (by simp); have d0 := cell_of hS2 0 rfl; have d1 := cell_of hS2 1 rfl; have d2 := cell_of hS2 2 rfl; have d3 := cell_of hS2 3 rfl; have f0 := free_of hS2 0; have f1 := free_of hS2 1; have f2 := free_of hS2 2; have f3 := free_of hS2 3; have HO := Lib.hid O; have HS2 := Lib.hid hS2; clear O hS2)
  clear g0 g1 g2 g3 g4 g5 c0 c1 c2 c3 d0 d1 d2 d3 f0 f1 f2 f3
  have nS : ((((w11.setCell ⟨w.heap.size + 1, 0, none⟩ (.int .i64 0)).setCell ⟨w.heap.size + 1, 1, none⟩ (.int .i64 0)).setCell ⟨w.heap.size + 1, 2, none⟩ (.int .i64 7)).setCell ⟨w.heap.size + 1, 3, none⟩ (.int .i64 (-7))).heap[w.heap.size + 1]? = some (.cells #[.int .i64 0, .int .i64 0, .int .i64 7, .int .i64 (-7)] 44 (0, 0)) := block_setCell (block_setCell (block_setCell (block_setCell HS2.out 0 _) 1 _) 2 _) 3 _
  have nF := block_far (a := ⟨w.heap.size + 1, 3, none⟩) (v := .int .i64 (-7)) (block_far (a := ⟨w.heap.size + 1, 2, none⟩) (v := .int .i64 7) (block_far (a := ⟨w.heap.size + 1, 1, none⟩) (v := .int .i64 0) (block_far (a := ⟨w.heap.size + 1, 0, none⟩) (v := .int .i64 0) (HO.out.at QF.out (by simp)) (by simp)) (by simp)) (by simp)) (by simp)
  have nM := block_far (a := ⟨w.heap.size + 1, 3, none⟩) (v := .int .i64 (-7)) (block_far (a := ⟨w.heap.size + 1, 2, none⟩) (v := .int .i64 7) (block_far (a := ⟨w.heap.size + 1, 1, none⟩) (v := .int .i64 0) (block_far (a := ⟨w.heap.size + 1, 0, none⟩) (v := .int .i64 0) (HO.out.at QM.out (by simp)) (by simp; omega)) (by simp; omega)) (by simp; omega)) (by simp; omega)
  have nO : Only [] w ((((w11.setCell ⟨w.heap.size + 1, 0, none⟩ (.int .i64 0)).setCell ⟨w.heap.size + 1, 1, none⟩ (.int .i64 0)).setCell ⟨w.heap.size + 1, 2, none⟩ (.int .i64 7)).setCell ⟨w.heap.size + 1, 3, none⟩ (.int .i64 (-7))) := ((((QO.out.trans HO.out).setCell (.inr (by simp)) _).setCell (.inr (by simp)) _).setCell (.inr (by simp)) _).setCell (.inr (by simp)) _
  clear QF QS QM QO HO HS2
  generalize ((((w11.setCell ⟨w.heap.size + 1, 0, none⟩ (.int .i64 0)).setCell ⟨w.heap.size + 1, 1, none⟩ (.int .i64 0)).setCell ⟨w.heap.size + 1, 2, none⟩ (.int .i64 7)).setCell ⟨w.heap.size + 1, 3, none⟩ (.int .i64 (-7))) = x2 at *
  have hl := lk_b_2 x2 w3.heap.size nM
  have c0 := cell_of nS 0 rfl
  have c1 := cell_of nS 1 rfl
  have c2 := cell_of nS 2 rfl
  have c3 := cell_of nS 3 rfl
  have hu := up_b_2 x2 w3.heap.size nM
  have QF := Lib.hid (putMap_far (o := .map #[⟨.agg #[.int .i64 0, .int .i64 0, .int .i64 7, .int .i64 0], .int .i64 0, 0⟩, ⟨.agg #[.int .i64 0, .int .i64 0, .int .i64 (-7), .int .i64 7], .int .i64 1, 1⟩, ⟨.agg #[.int .i64 0, .int .i64 0, .int .i64 7, .int .i64 (-7)], .int .i64 2, 2⟩] 3) (b := w3.heap.size) nF (by omega))
  have QS := Lib.hid (putMap_far (o := .map #[⟨.agg #[.int .i64 0, .int .i64 0, .int .i64 7, .int .i64 0], .int .i64 0, 0⟩, ⟨.agg #[.int .i64 0, .int .i64 0, .int .i64 (-7), .int .i64 7], .int .i64 1, 1⟩, ⟨.agg #[.int .i64 0, .int .i64 0, .int .i64 7, .int .i64 (-7)], .int .i64 2, 2⟩] 3) (b := w3.heap.size) nS (by omega))
  have QM := Lib.hid (putMap_at (o := .map #[⟨.agg #[.int .i64 0, .int .i64 0, .int .i64 7, .int .i64 0], .int .i64 0, 0⟩, ⟨.agg #[.int .i64 0, .int .i64 0, .int .i64 (-7), .int .i64 7], .int .i64 1, 1⟩, ⟨.agg #[.int .i64 0, .int .i64 0, .int .i64 7, .int .i64 (-7)], .int .i64 2, 2⟩] 3) nM)
  have QO := Lib.hid (putMap_only [] nO (b := w3.heap.size) (.inr (by omega)) (.map #[⟨.agg #[.int .i64 0, .int .i64 0, .int .i64 7, .int .i64 0], .int .i64 0, 0⟩, ⟨.agg #[.int .i64 0, .int .i64 0, .int .i64 (-7), .int .i64 7], .int .i64 1, 1⟩, ⟨.agg #[.int .i64 0, .int .i64 0, .int .i64 7, .int .i64 (-7)], .int .i64 2, 2⟩] 3))
  clear nF nS nM nO
  go_wp2_with fail
  clear hl hu c0 c1 c2 c3
  generalize putMap x2 w3.heap.size (.map #[⟨.agg #[.int .i64 0, .int .i64 0, .int .i64 7, .int .i64 0], .int .i64 0, 0⟩, ⟨.agg #[.int .i64 0, .int .i64 0, .int .i64 (-7), .int .i64 7], .int .i64 1, 1⟩, ⟨.agg #[.int .i64 0, .int .i64 0, .int .i64 7, .int .i64 (-7)], .int .i64 2, 2⟩] 3) = v2 at *
  rw [rounds_succ]
  have g0 := cell_of QF.out 0 rfl
  have g1 := cell_of QF.out 1 rfl
  have g2 := cell_of QF.out 2 rfl
  have g3 := cell_of QF.out 3 rfl
  have g4 := cell_of QF.out 4 rfl
  have g5 := cell_of QF.out 5 rfl
  have c0 := cell_of QS.out 0 rfl
  have c1 := cell_of QS.out 1 rfl
  have c2 := cell_of QS.out 2 rfl
  have c3 := cell_of QS.out 3 rfl
  go_upto_region 9 with (go_at_call 12; refine (HS3.out _).mono ?_; rintro e w12 ⟨rfl, O⟩; have hS2 := O.at QS.out (by simp); have d0 := cell_of hS2 0 rfl; have d1 := cell_of hS2 1 rfl; have d2 := cell_of hS2 2 rfl; have d3 := cell_of hS2 3 rfl; have f0 := free_of hS2 0; have f1 := free_of hS2 1; have f2 := free_of hS2 2; have f3 := free_of hS2 3; have HO := Lib.hid O; have HS2 := Lib.hid hS2; clear O hS2)
  clear g0 g1 g2 g3 g4 g5 c0 c1 c2 c3 d0 d1 d2 d3 f0 f1 f2 f3
  have nS : ((((w12.setCell ⟨w.heap.size + 1, 0, none⟩ (.int .i64 0)).setCell ⟨w.heap.size + 1, 1, none⟩ (.int .i64 0)).setCell ⟨w.heap.size + 1, 2, none⟩ (.int .i64 (-7))).setCell ⟨w.heap.size + 1, 3, none⟩ (.int .i64 7)).heap[w.heap.size + 1]? = some (.cells #[.int .i64 0, .int .i64 0, .int .i64 (-7), .int .i64 7] 44 (0, 0)) := block_setCell (block_setCell (block_setCell (block_setCell HS2.out 0 _) 1 _) 2 _) 3 _
  have nF := block_far (a := ⟨w.heap.size + 1, 3, none⟩) (v := .int .i64 7) (block_far (a := ⟨w.heap.size + 1, 2, none⟩) (v := .int .i64 (-7)) (block_far (a := ⟨w.heap.size + 1, 1, none⟩) (v := .int .i64 0) (block_far (a := ⟨w.heap.size + 1, 0, none⟩) (v := .int .i64 0) (HO.out.at QF.out (by simp)) (by simp)) (by simp)) (by simp)) (by simp)
  have nM := block_far (a := ⟨w.heap.size + 1, 3, none⟩) (v := .int .i64 7) (block_far (a := ⟨w.heap.size + 1, 2, none⟩) (v := .int .i64 (-7)) (block_far (a := ⟨w.heap.size + 1, 1, none⟩) (v := .int .i64 0) (block_far (a := ⟨w.heap.size + 1, 0, none⟩) (v := .int .i64 0) (HO.out.at QM.out (by simp)) (by simp; omega)) (by simp; omega)) (by simp; omega)) (by simp; omega)
  have nO : Only [] w ((((w12.setCell ⟨w.heap.size + 1, 0, none⟩ (.int .i64 0)).setCell ⟨w.heap.size + 1, 1, none⟩ (.int .i64 0)).setCell ⟨w.heap.size + 1, 2, none⟩ (.int .i64 (-7))).setCell ⟨w.heap.size + 1, 3, none⟩ (.int .i64 7)) := ((((QO.out.trans HO.out).setCell (.inr (by simp)) _).setCell (.inr (by simp)) _).setCell (.inr (by simp)) _).setCell (.inr (by simp)) _
  clear QF QS QM QO HO HS2
  generalize ((((w12.setCell ⟨w.heap.size + 1, 0, none⟩ (.int .i64 0)).setCell ⟨w.heap.size + 1, 1, none⟩ (.int .i64 0)).setCell ⟨w.heap.size + 1, 2, none⟩ (.int .i64 (-7))).setCell ⟨w.heap.size + 1, 3, none⟩ (.int .i64 7)) = x3 at *
  have hl := lk_b_3 x3 w3.heap.size nM
  have c0 := cell_of nS 0 rfl
  have c1 := cell_of nS 1 rfl
  have c2 := cell_of nS 2 rfl
  have c3 := cell_of nS 3 rfl
  have QO := Lib.hid nO
  clear nF nS nM nO
  go_wp2_with fail
  go_ret3
  exact ⟨rfl, QO.out⟩
theorem up_c_0 (w : World) (b : Nat) (h : w.heap[b]? = some (.map #[] 0)) :
    (Instr.mapUpdate 58 (.map (some b)) (.agg #[.int .i64 0, .int .i64 0, .int .i64 7, .int .i64 0]) (.int .i64 0)).run Tryz.prog w = .ok () (putMap w b (.map #[⟨.agg #[.int .i64 0, .int .i64 0, .int .i64 7, .int .i64 0], .int .i64 0, 0⟩] 1)) := by
  unfold Instr.mapUpdate
  simp only [Sem.run_bind, run_underlying Tryz.underlying58, run_getMap h, Result.andThen]
  refine Eq.trans (b := (setObj b (.map #[⟨.agg #[.int .i64 0, .int .i64 0, .int .i64 7, .int .i64 0], .int .i64 0, 0⟩] 1)).run Tryz.prog w) ?_ (run_setMap h _)
  kernel_rfl
theorem lk_c_1 (w : World) (b : Nat) (h : w.heap[b]? = some (.map #[⟨.agg #[.int .i64 0, .int .i64 0, .int .i64 7, .int .i64 0], .int .i64 0, 0⟩] 1)) :
    (Instr.lookup 58 (.map (some b)) (.agg #[.int .i64 0, .int .i64 0, .int .i64 (-7), .int .i64 7]) true).run Tryz.prog w = .ok (.tuple #[.int .i64 0, .bool false]) w := by
  unfold Instr.lookup
  simp only [Sem.run_bind, run_underlying Tryz.underlying58, run_getMap h, Result.andThen]
  kernel_rfl
theorem up_c_1 (w : World) (b : Nat) (h : w.heap[b]? = some (.map #[⟨.agg #[.int .i64 0, .int .i64 0, .int .i64 7, .int .i64 0], .int .i64 0, 0⟩] 1)) :
    (Instr.mapUpdate 58 (.map (some b)) (.agg #[.int .i64 0, .int .i64 0, .int .i64 (-7), .int .i64 7]) (.int .i64 1)).run Tryz.prog w = .ok () (putMap w b (.map #[⟨.agg #[.int .i64 0, .int .i64 0, .int .i64 7, .int .i64 0], .int .i64 0, 0⟩, ⟨.agg #[.int .i64 0, .int .i64 0, .int .i64 (-7), .int .i64 7], .int .i64 1, 1⟩] 2)) := by
  unfold Instr.mapUpdate
  simp only [Sem.run_bind, run_underlying Tryz.underlying58, run_getMap h, Result.andThen]
  refine Eq.trans (b := (setObj b (.map #[⟨.agg #[.int .i64 0, .int .i64 0, .int .i64 7, .int .i64 0], .int .i64 0, 0⟩, ⟨.agg #[.int .i64 0, .int .i64 0, .int .i64 (-7), .int .i64 7], .int .i64 1, 1⟩] 2)).run Tryz.prog w) ?_ (run_setMap h _)
  kernel_rfl
theorem lk_c_2 (w : World) (b : Nat) (h : w.heap[b]? = some (.map #[⟨.agg #[.int .i64 0, .int .i64 0, .int .i64 7, .int .i64 0], .int .i64 0, 0⟩, ⟨.agg #[.int .i64 0, .int .i64 0, .int .i64 (-7), .int .i64 7], .int .i64 1, 1⟩] 2)) :
    (Instr.lookup 58 (.map (some b)) (.agg #[.int .i64 0, .int .i64 0, .int .i64 7, .int .i64 (-7)]) true).run Tryz.prog w = .ok (.tuple #[.int .i64 0, .bool false]) w := by
  unfold Instr.lookup
  simp only [Sem.run_bind, run_underlying Tryz.underlying58, run_getMap h, Result.andThen]
  kernel_rfl
theorem up_c_2 (w : World) (b : Nat) (h : w.heap[b]? = some (.map #[⟨.agg #[.int .i64 0, .int .i64 0, .int .i64 7, .int .i64 0], .int .i64 0, 0⟩, ⟨.agg #[.int .i64 0, .int .i64 0, .int .i64 (-7), .int .i64 7], .int .i64 1, 1⟩] 2)) :
    (Instr.mapUpdate 58 (.map (some b)) (.agg #[.int .i64 0, .int .i64 0, .int .i64 7, .int .i64 (-7)]) (.int .i64 2)).run Tryz.prog w = .ok () (putMap w b (.map #[⟨.agg #[.int .i64 0, .int .i64 0, .int .i64 7, .int .i64 0], .int .i64 0, 0⟩, ⟨.agg #[.int .i64 0, .int .i64 0, .int .i64 (-7), .int .i64 7], .int .i64 1, 1⟩, ⟨.agg #[.int .i64 0, .int .i64 0, .int .i64 7, .int .i64 (-7)], .int .i64 2, 2⟩] 3)) := by
  unfold Instr.mapUpdate
  simp only [Sem.run_bind, run_underlying Tryz.underlying58, run_getMap h, Result.andThen]
  refine Eq.trans (b := (setObj b (.map #[⟨.agg #[.int .i64 0, .int .i64 0, .int .i64 7, .int .i64 0], .int .i64 0, 0⟩, ⟨.agg #[.int .i64 0, .int .i64 0, .int .i64 (-7), .int .i64 7], .int .i64 1, 1⟩, ⟨.agg #[.int .i64 0, .int .i64 0, .int .i64 7, .int .i64 (-7)], .int .i64 2, 2⟩] 3)).run Tryz.prog w) ?_ (run_setMap h _)
  kernel_rfl
set_option maxRecDepth 20000 in
set_option maxHeartbeats 4000000 in
theorem cyc_c (w : World) : Calls Tryz.prog 11 #[.agg #[.int .i64 1, .int .i64 0, .int .i64 0, .int .i64 0, .int .i64 2, .int .i64 0], .agg #[.int .i64 0, .int .i64 0, .int .i64 7, .int .i64 0], .int .i64 2] w fun e w' =>
    e = .returned (.tuple #[.int .i64 0, .int .i64 0, .int .i64 10]) ∧ Only [] w w' := by
  have hmm := @run_makeMap Tryz.prog
  have HS1 := Lib.hid (fun w => show Calls Tryz.prog 12 #[.agg #[.int .i64 1, .int .i64 0, .int .i64 0, .int .i64 0, .int .i64 2, .int .i64 0], .agg #[.int .i64 0, .int .i64 0, .int .i64 7, .int .i64 0], .int .i64 0] w (fun e w' => e = .returned (.tuple #[.int .i64 (-7), .agg #[.int .i64 0, .int .i64 0, .int .i64 (-7), .int .i64 7], .bool false]) ∧ Only [] w w') from step_p2 0 (.inl rfl) w)
  have HS2 := Lib.hid (fun w => show Calls Tryz.prog 12 #[.agg #[.int .i64 1, .int .i64 0, .int .i64 0, .int .i64 0, .int .i64 2, .int .i64 0], .agg #[.int .i64 0, .int .i64 0, .int .i64 (-7), .int .i64 7], .int .i64 0] w (fun e w' => e = .returned (.tuple #[.int .i64 7, .agg #[.int .i64 0, .int .i64 0, .int .i64 7, .int .i64 (-7)], .bool false]) ∧ Only [] w w') from step_n2 w)
  go_enter Tryz.func11, Tryz.ntmps11
  go_wp2_with (go_at_call 13; refine (right_yes 1 (by decide) (by decide) _).mono ?_; rintro e w' ⟨rfl, rfl⟩)
  refine still_tail_drew 13 (by kernel_rfl) (by kernel_rfl) ?_
  simp only [List.take_succ_cons, List.take_zero, List.drop_succ_cons, List.drop_zero]
  still_step
  still_step
  still_call (kept_lit 0 0 (by decide) _)
  still_step
  still_step
  still_call (kept_lit 0 0 (by decide) _)
  still_step
  still_step
  still_call (kept_lit 7 7 (by decide) _)
  still_step
  still_step
  still_call (kept_lit 0 0 (by decide) _)
  still_step
  refine wpStill_nil ?_
  go_upto_region 4 with fail
  have hF : (((w.alloc (.cells #[.int .i64 1, .int .i64 0, .int .i64 0, .int .i64 0, .int .i64 2, .int .i64 0] 34)).alloc (.cells #[.int .i64 0, .int .i64 0, .int .i64 7, .int .i64 0] 44)).drew).heap[w.heap.size]? = some (.cells #[.int .i64 1, .int .i64 0, .int .i64 0, .int .i64 0, .int .i64 2, .int .i64 0] 34 (0, 0)) := block_drew (block_alloc (block_new w _))
  have hS : (((w.alloc (.cells #[.int .i64 1, .int .i64 0, .int .i64 0, .int .i64 0, .int .i64 2, .int .i64 0] 34)).alloc (.cells #[.int .i64 0, .int .i64 0, .int .i64 7, .int .i64 0] 44)).drew).heap[w.heap.size + 1]? = some (.cells #[.int .i64 0, .int .i64 0, .int .i64 7, .int .i64 0] 44 (0, 0)) := block_drew (by simpa using block_new (w.alloc (.cells #[.int .i64 1, .int .i64 0, .int .i64 0, .int .i64 0, .int .i64 2, .int .i64 0] 34)) (.cells #[.int .i64 0, .int .i64 0, .int .i64 7, .int .i64 0] 44))
  have hO : Only [] w (((w.alloc (.cells #[.int .i64 1, .int .i64 0, .int .i64 0, .int .i64 0, .int .i64 2, .int .i64 0] 34)).alloc (.cells #[.int .i64 0, .int .i64 0, .int .i64 7, .int .i64 0] 44)).drew) := (((Only.refl [] w).alloc _).alloc _).drew
  have hz : w.heap.size + 2 ≤ (((w.alloc (.cells #[.int .i64 1, .int .i64 0, .int .i64 0, .int .i64 0, .int .i64 2, .int .i64 0] 34)).alloc (.cells #[.int .i64 0, .int .i64 0, .int .i64 7, .int .i64 0] 44)).drew).heap.size := by simp
  generalize (((w.alloc (.cells #[.int .i64 1, .int .i64 0, .int .i64 0, .int .i64 0, .int .i64 2, .int .i64 0] 34)).alloc (.cells #[.int .i64 0, .int .i64 0, .int .i64 7, .int .i64 0] 44)).drew) = w3 at *
  have c0 := cell_old (o := .map #[] 0) (cell_of hS 0 rfl)
  have c1 := cell_old (o := .map #[] 0) (cell_of hS 1 rfl)
  have c2 := cell_old (o := .map #[] 0) (cell_of hS 2 rfl)
  have c3 := cell_old (o := .map #[] 0) (cell_of hS 3 rfl)
  have hu := up_c_0 (w3.alloc (.map #[] 0)) w3.heap.size (block_new w3 _)
  have QF := Lib.hid (putMap_far (o := .map #[⟨.agg #[.int .i64 0, .int .i64 0, .int .i64 7, .int .i64 0], .int .i64 0, 0⟩] 1) (b := w3.heap.size) (block_alloc (o' := .map #[] 0) hF) (by omega))
  have QS := Lib.hid (putMap_far (o := .map #[⟨.agg #[.int .i64 0, .int .i64 0, .int .i64 7, .int .i64 0], .int .i64 0, 0⟩] 1) (b := w3.heap.size) (block_alloc (o' := .map #[] 0) hS) (by omega))
  have QM := Lib.hid (putMap_at (o := .map #[⟨.agg #[.int .i64 0, .int .i64 0, .int .i64 7, .int .i64 0], .int .i64 0, 0⟩] 1) (block_new w3 (.map #[] 0)))
  have QO := Lib.hid (putMap_only [] (hO.alloc (.map #[] 0)) (b := w3.heap.size) (.inr (by omega)) (.map #[⟨.agg #[.int .i64 0, .int .i64 0, .int .i64 7, .int .i64 0], .int .i64 0, 0⟩] 1))
  clear hF hS hO
  go_upto_region 5 with fail
  clear c0 c1 c2 c3 hu
  generalize putMap (w3.alloc (.map #[] 0)) w3.heap.size (.map #[⟨.agg #[.int .i64 0, .int .i64 0, .int .i64 7, .int .i64 0], .int .i64 0, 0⟩] 1) = v0 at *
  go_wp2_with fail
  refine wp_loop_rounds 3 ?_
  rw [rounds_succ]
  have g0 := cell_of QF.out 0 rfl
  have g1 := cell_of QF.out 1 rfl
  have g2 := cell_of QF.out 2 rfl
  have g3 := cell_of QF.out 3 rfl
  have g4 := cell_of QF.out 4 rfl
  have g5 := cell_of QF.out 5 rfl
  have c0 := cell_of QS.out 0 rfl
  have c1 := cell_of QS.out 1 rfl
  have c2 := cell_of QS.out 2 rfl
  have c3 := cell_of QS.out 3 rfl
  go_upto_region 9 with (go_at_call 12; refine (HS1.out _).mono ?_; rintro e w10 ⟨rfl, O⟩; have hS2 := O.at QS.out (by simp); have d0 := cell_of hS2 0 rfl; have d1 := cell_of hS2 1 rfl; have d2 := cell_of hS2 2 rfl; have d3 := cell_of hS2 3 rfl; have f0 := free_of hS2 0; have f1 := free_of hS2 1; have f2 := free_of hS2 2; have f3 := free_of hS2 3; have HO := Lib.hid O; have HS2 := Lib.hid hS2; clear O hS2)
  clear g0 g1 g2 g3 g4 g5 c0 c1 c2 c3 d0 d1 d2 d3 f0 f1 f2 f3
  have nS : ((((w10.setCell ⟨w.heap.size + 1, 0, none⟩ (.int .i64 0)).setCell ⟨w.heap.size + 1, 1, none⟩ (.int .i64 0)).setCell ⟨w.heap.size + 1, 2, none⟩ (.int .i64 (-7))).setCell ⟨w.heap.size + 1, 3, none⟩ (.int .i64 7)).heap[w.heap.size + 1]? = some (.cells #[.int .i64 0, .int .i64 0, .int .i64 (-7), .int .i64 7] 44 (0, 0)) := block_setCell (block_setCell (block_setCell (block_setCell HS2.out 0 _) 1 _) 2 _) 3 _
  have nF := block_far (a := ⟨w.heap.size + 1, 3, none⟩) (v := .int .i64 7) (block_far (a := ⟨w.heap.size + 1, 2, none⟩) (v := .int .i64 (-7)) (block_far (a := ⟨w.heap.size + 1, 1, none⟩) (v := .int .i64 0) (block_far (a := ⟨w.heap.size + 1, 0, none⟩) (v := .int .i64 0) (HO.out.at QF.out (by simp)) (by simp)) (by simp)) (by simp)) (by simp)
  have nM := block_far (a := ⟨w.heap.size + 1, 3, none⟩) (v := .int .i64 7) (block_far (a := ⟨w.heap.size + 1, 2, none⟩) (v := .int .i64 (-7)) (block_far (a := ⟨w.heap.size + 1, 1, none⟩) (v := .int .i64 0) (block_far (a := ⟨w.heap.size + 1, 0, none⟩) (v := .int .i64 0) (HO.out.at QM.out (by simp)) (by simp; omega)) (by simp; omega)) (by simp; omega)) (by simp; omega)
  have nO : Only [] w ((((w10.setCell ⟨w.heap.size + 1, 0, none⟩ (.int .i64 0)).setCell ⟨w.heap.size + 1, 1, none⟩ (.int .i64 0)).setCell ⟨w.heap.size + 1, 2, none⟩ (.int .i64 (-7))).setCell ⟨w.heap.size + 1, 3, none⟩ (.int .i64 7)) := ((((QO.out.trans HO.out).setCell (.inr (by simp)) _).setCell (.inr (by simp)) _).setCell (.inr (by simp)) _).setCell (.inr (by simp)) _
  clear QF QS QM QO HO HS2
  generalize ((((w10.setCell ⟨w.heap.size + 1, 0, none⟩ (.int .i64 0)).setCell ⟨w.heap.size + 1, 1, none⟩ (.int .i64 0)).setCell ⟨w.heap.size + 1, 2, none⟩ (.int .i64 (-7))).setCell ⟨w.heap.size + 1, 3, none⟩ (.int .i64 7)) = x1 at *
  have hl := lk_c_1 x1 w3.heap.size nM
  have c0 := cell_of nS 0 rfl
  have c1 := cell_of nS 1 rfl
  have c2 := cell_of nS 2 rfl
  have c3 := cell_of nS 3 rfl
  have hu := up_c_1 x1 w3.heap.size nM
  have QF := Lib.hid (putMap_far (o := .map #[⟨.agg #[.int .i64 0, .int .i64 0, .int .i64 7, .int .i64 0], .int .i64 0, 0⟩, ⟨.agg #[.int .i64 0, .int .i64 0, .int .i64 (-7), .int .i64 7], .int .i64 1, 1⟩] 2) (b := w3.heap.size) nF (by omega))
  have QS := Lib.hid (putMap_far (o := .map #[⟨.agg #[.int .i64 0, .int .i64 0, .int .i64 7, .int .i64 0], .int .i64 0, 0⟩, ⟨.agg #[.int .i64 0, .int .i64 0, .int .i64 (-7), .int .i64 7], .int .i64 1, 1⟩] 2) (b := w3.heap.size) nS (by omega))
  have QM := Lib.hid (putMap_at (o := .map #[⟨.agg #[.int .i64 0, .int .i64 0, .int .i64 7, .int .i64 0], .int .i64 0, 0⟩, ⟨.agg #[.int .i64 0, .int .i64 0, .int .i64 (-7), .int .i64 7], .int .i64 1, 1⟩] 2) nM)
  have QO := Lib.hid (putMap_only [] nO (b := w3.heap.size) (.inr (by omega)) (.map #[⟨.agg #[.int .i64 0, .int .i64 0, .int .i64 7, .int .i64 0], .int .i64 0, 0⟩, ⟨.agg #[.int .i64 0, .int .i64 0, .int .i64 (-7), .int .i64 7], .int .i64 1, 1⟩] 2))
  clear nF nS nM nO
  go_wp2_with fail
  clear hl hu c0 c1 c2 c3
  generalize putMap x1 w3.heap.size (.map #[⟨.agg #[.int .i64 0, .int .i64 0, .int .i64 7, .int .i64 0], .int .i64 0, 0⟩, ⟨.agg #[.int .i64 0, .int .i64 0, .int .i64 (-7), .int .i64 7], .int .i64 1, 1⟩] 2) = v1 at *
  rw [rounds_succ]
  have g0 := cell_of QF.out 0 rfl
  have g1 := cell_of QF.out 1 rfl
  have g2 := cell_of QF.out 2 rfl
  have g3 := cell_of QF.out 3 rfl
  have g4 := cell_of QF.out 4 rfl
  have g5 := cell_of QF.out 5 rfl
  have c0 := cell_of QS.out 0 rfl
  have c1 := cell_of QS.out 1 rfl
  have c2 := cell_of QS.out 2 rfl
  have c3 := cell_of QS.out 3 rfl
  go_upto_region 9 with (go_at_call 12; refine (HS2.out _).mono ?_; rintro e w11 ⟨rfl, O⟩; have hS2 := O.at QS.out (by simp); have d0 := cell_of hS2 0 rfl; have d1 := cell_of hS2 1 rfl; have d2 := cell_of hS2 2 rfl; have d3 := cell_of hS2 3 rfl; have f0 := free_of hS2 0; have f1 := free_of hS2 1; have f2 := free_of hS2 2; have f3 := free_of hS2 3; have HO := Lib.hid O; have HS2 := Lib.hid hS2; clear O hS2)
  clear g0 g1 g2 g3 g4 g5 c0 c1 c2 c3 d0 d1 d2 d3 f0 f1 f2 f3
  have nS : ((((w11.setCell ⟨w.heap.size + 1, 0, none⟩ (.int .i64 0)).setCell ⟨w.heap.size + 1, 1, none⟩ (.int .i64 0)).setCell ⟨w.heap.size + 1, 2, none⟩ (.int .i64 7)).setCell ⟨w.heap.size + 1, 3, none⟩ (.int .i64 (-7))).heap[w.heap.size + 1]? = some (.cells #[.int .i64 0, .int .i64 0, .int .i64 7, .int .i64 (-7)] 44 (0, 0)) := block_setCell (block_setCell (block_setCell (block_setCell HS2.out 0 _) 1 _) 2 _) 3 _
  have nF := block_far (a := ⟨w.heap.size + 1, 3, none⟩) (v := .int .i64 (-7)) (block_far (a := ⟨w.heap.size + 1, 2, none⟩) (v := .int .i64 7) (block_far (a := ⟨w.heap.size + 1, 1, none⟩) (v := .int .i64 0) (block_far (a := ⟨w.heap.size + 1, 0, none⟩) (v := .int .i64 0) (HO.out.at QF.out (by simp)) (by simp)) (by simp)) (by simp)) (by simp)
  have nM := block_far (a := ⟨w.heap.size + 1, 3, none⟩) (v := .int .i64 (-7)) (block_far (a := ⟨w.heap.size + 1, 2, none⟩) (v := .int .i64 7) (block_far (a := ⟨w.heap.size + 1, 1, none⟩) (v := .int .i64 0) (block_far (a := ⟨w.heap.size + 1, 0, none⟩) (v := .int .i64 0) (HO.out.at QM.out (by simp)) (by simp; omega)) (by simp; omega)) (by simp; omega)) (by simp; omega)
  have nO : Only [] w ((((w11.setCell ⟨w.heap.size + 1, 0, none⟩ (.int .i64 0)).setCell ⟨w.heap.size + 1, 1, none⟩ (.int .i64 0)).setCell ⟨w.heap.size + 1, 2, none⟩ (.int .i64 7)).setCell ⟨w.heap.size + 1, 3, none⟩ (.int .i64 (-7))) := ((((QO.out.trans HO.out).setCell (.inr (by simp)) _).setCell (.inr (by simp)) _).setCell (.inr (by simp)) _).setCell (.inr (by simp)) _
  clear QF QS QM QO HO HS2
  generalize ((((w11.setCell ⟨w.heap.size + 1, 0, none⟩ (.int .i64 0)).setCell ⟨w.heap.size + 1, 1, none⟩ (.int .i64 0)).setCell ⟨w.heap.size + 1, 2, none⟩ (.int .i64 7)).setCell ⟨w.heap.size + 1, 3, none⟩ (.int .i64 (-7))) = x2 at *
  have hl := lk_c_2 x2 w3.heap.size nM
  have c0 := cell_of nS 0 rfl
  have c1 := cell_of nS 1 rfl
  have c2 := cell_of nS 2 rfl
  have c3 := cell_of nS 3 rfl
  have hu := up_c_2 x2 w3.heap.size nM
  have QF := Lib.hid (putMap_far (o := .map #[⟨.agg #[.int .i64 0, .int .i64 0, .int .i64 7, .int .i64 0], .int .i64 0, 0⟩, ⟨.agg #[.int .i64 0, .int .i64 0, .int .i64 (-7), .int .i64 7], .int .i64 1, 1⟩, ⟨.agg #[.int .i64 0, .int .i64 0, .int .i64 7, .int .i64 (-7)], .int .i64 2, 2⟩] 3) (b := w3.heap.size) nF (by omega))
  have QS := Lib.hid (putMap_far (o := .map #[⟨.agg #[.int .i64 0, .int .i64 0, .int .i64 7, .int .i64 0], .int .i64 0, 0⟩, ⟨.agg #[.int .i64 0, .int .i64 0, .int .i64 (-7), .int .i64 7], .int .i64 1, 1⟩, ⟨.agg #[.int .i64 0, .int .i64 0, .int .i64 7, .int .i64 (-7)], .int .i64 2, 2⟩] 3) (b := w3.heap.size) nS (by omega))
  have QM := Lib.hid (putMap_at (o := .map #[⟨.agg #[.int .i64 0, .int .i64 0, .int .i64 7, .int .i64 0], .int .i64 0, 0⟩, ⟨.agg #[.int .i64 0, .int .i64 0, .int .i64 (-7), .int .i64 7], .int .i64 1, 1⟩, ⟨.agg #[.int .i64 0, .int .i64 0, .int .i64 7, .int .i64 (-7)], .int .i64 2, 2⟩] 3) nM)
  have QO := Lib.hid (putMap_only [] nO (b := w3.heap.size) (.inr (by omega)) (.map #[⟨.agg #[.int .i64 0, .int .i64 0, .int .i64 7, .int .i64 0], .int .i64 0, 0⟩, ⟨.agg #[.int .i64 0, .int .i64 0, .int .i64 (-7), .int .i64 7], .int .i64 1, 1⟩, ⟨.agg #[.int .i64 0, .int .i64 0, .int .i64 7, .int .i64 (-7)], .int .i64 2, 2⟩] 3))
  clear nF nS nM nO
  go_wp2_with fail
  clear hl hu c0 c1 c2 c3
  generalize putMap x2 w3.heap.size (.map #[⟨.agg #[.int .i64 0, .int .i64 0, .int .i64 7, .int .i64 0], .int .i64 0, 0⟩, ⟨.agg #[.int .i64 0, .int .i64 0, .int .i64 (-7), .int .i64 7], .int .i64 1, 1⟩, ⟨.agg #[.int .i64 0, .int .i64 0, .int .i64 7, .int .i64 (-7)], .int .i64 2, 2⟩] 3) = v2 at *
  rw [rounds_succ]
  go_wp2_with fail
  go_ret3
  exact ⟨rfl, QO.out⟩
set_option maxHeartbeats 1000000 in
theorem cyc_d (w : World) : Calls Tryz.prog 11 #[.agg #[.int .i64 1, .int .i64 0, .int .i64 0, .int .i64 0, .int .i64 0, .int .i64 0], .agg #[.int .i64 0, .int .i64 0, .int .i64 0, .int .i64 0], .int .i64 1048577] w fun e w' =>
    e = .returned (.tuple #[.int .i64 0, .int .i64 0, .int .i64 1]) ∧ Only [] w w' := by
  go_enter Tryz.func11, Tryz.ntmps11
  go_wp2_with (go_at_call 13; refine (right_no 0 (by decide) _).mono ?_; rintro e w' ⟨rfl, rfl⟩)
  go_ret3
  exact ⟨rfl, ((Only.refl [] w).alloc _).alloc _⟩
set_option maxHeartbeats 1000000 in
theorem cyc_e (w : World) : Calls Tryz.prog 11 #[.agg #[.int .i64 0, .int .i64 0, .int .i64 0, .int .i64 0, .int .i64 0, .int .i64 0], .agg #[.int .i64 0, .int .i64 0, .int .i64 0, .int .i64 0], .int .i64 1] w fun e w' =>
    e = .returned (.tuple #[.int .i64 0, .int .i64 0, .int .i64 1]) ∧ Only [] w w' := by
  go_enter Tryz.func11, Tryz.ntmps11
  go_wp2_with (go_at_call 13; refine (right_no 0 (by decide) _).mono ?_; rintro e w' ⟨rfl, rfl⟩)
  go_ret3
  exact ⟨rfl, ((Only.refl [] w).alloc _).alloc _⟩
end Go.Proofs.YtmkcnpimlgjbhaaGreatDoor
