/- Walks of the transforms of four numbers (fft.Forward, fft.Inverse, circle.Turns) at the numbers that the statement's awake() asks for. -/
import Derived.Test.YtmkcnpimlgjbhabGreatFmtProg
import Derived.Test.YtmkcnpimlgjbhabGreatFmtRev
import Derived.WalkKit
import Derived.WalkSpells
import Derived.WalkLawsBesides
import Derived.Lib.Hide
import Derived.Handy
import Derived.Deep.QuietTactic
import Derived.BigQuiet
namespace Go.Proofs.YtmkcnpimlgjbhabGreatFmt
open Go.RowKit
set_option maxHeartbeats 400000 in
theorem within0 (k : Int) (w : World) :
    Calls Tryz.prog 24 #[.int .i64 0, .int .i64 k] w fun e w' => e = .returned (.complex .f64 4607182418800017408 0) ∧ w = w' := by
  go_enter Tryz.func24, Tryz.ntmps24
  go_wp2
  go_ret
  exact ⟨rfl, rfl⟩
set_option maxHeartbeats 400000 in
theorem cturn (a b c : Nat) (w : World) (h : Op.negFloat .f64 b = c) :
    Calls Tryz.prog 25 #[.complex .f64 a b] w fun e w' => e = .returned (.complex .f64 c a) ∧ w = w' := by
  have h1 := fun (w : World) => show (Op.unary .neg (.float .f64 b)).run Tryz.prog w = .ok (.float .f64 c) w by simp [Op.unary, h]
  clear h
  go_enter Tryz.func25, Tryz.ntmps25
  go_wp2
  go_ret
  exact ⟨rfl, rfl⟩
set_option maxHeartbeats 400000 in
theorem cconj (a b c : Nat) (w : World) (h : Op.negFloat .f64 b = c) :
    Calls Tryz.prog 14 #[.complex .f64 a b] w fun e w' => e = .returned (.complex .f64 a c) ∧ w = w' := by
  have h1 := fun (w : World) => show (Op.unary .neg (.float .f64 b)).run Tryz.prog w = .ok (.float .f64 c) w by simp [Op.unary, h]
  clear h
  go_enter Tryz.func14, Tryz.ntmps14
  go_wp2
  go_ret
  exact ⟨rfl, rfl⟩
set_option maxHeartbeats 400000 in
theorem cplain (a b c d : Nat) (w : World) (h : floatBits .add .f64 a 0 = some c) (h' : floatBits .add .f64 b 0 = some d) :
    Calls Tryz.prog 26 #[.complex .f64 a b] w fun e w' => e = .returned (.complex .f64 c d) ∧ w = w' := by
  have a1 := fun (w : World) => run_float_arith (P := Tryz.prog) w .add 42 .f64 a 0 c h
  have a2 := fun (w : World) => run_float_arith (P := Tryz.prog) w .add 42 .f64 b 0 d h'
  clear h h'
  go_enter Tryz.func26, Tryz.ntmps26
  go_wp2
  go_ret
  exact ⟨rfl, rfl⟩
set_option maxHeartbeats 400000 in
theorem turn_10 (w : World) :
    Calls Tryz.prog 23 #[.int .i64 0, .int .i64 1] w fun e w' => e = .returned (.tuple #[.complex .f64 4607182418800017408 0, .int .i64 0]) ∧ w = w' := by
  have b1 : bits BinOp.and IntKind.i64 0 1 = 0 := by decide +kernel
  have b2 : wrap64 0 = 0 := by decide +kernel
  go_enter Tryz.func23, Tryz.ntmps23
  go_wp2
  refine wp_loop_rounds 2 ?_
  repeat any_goals (rw [rounds_succ]; go_wp2_with (first | (go_at_call 24; refine (within0 _ _).mono ?_; rintro e w' ⟨rfl, rfl⟩) | (go_at_call 26; (with_reducible refine (cplain 4607182418800017408 0 4607182418800017408 0 _ (by decide +kernel) (by decide +kernel)).mono ?_); rintro e w' ⟨rfl, rfl⟩)))
  refine wp_loop_rounds 5 ?_
  repeat any_goals (rw [rounds_succ]; go_wp2_with (first | (go_at_call 24; refine (within0 _ _).mono ?_; rintro e w' ⟨rfl, rfl⟩) | (go_at_call 26; (with_reducible refine (cplain 4607182418800017408 0 4607182418800017408 0 _ (by decide +kernel) (by decide +kernel)).mono ?_); rintro e w' ⟨rfl, rfl⟩)))
  go_ret2
  exact ⟨rfl, rfl⟩
set_option maxHeartbeats 400000 in
theorem turn_11 (w : World) :
    Calls Tryz.prog 23 #[.int .i64 1, .int .i64 1] w fun e w' => e = .returned (.tuple #[.complex .f64 13830554455654793216 0, .int .i64 0]) ∧ w = w' := by
  have b1 : bits BinOp.and IntKind.i64 1 1 = 1 := by decide +kernel
  have b2 : wrap64 0 = 0 := by decide +kernel
  go_enter Tryz.func23, Tryz.ntmps23
  go_wp2
  refine wp_loop_rounds 2 ?_
  repeat any_goals (rw [rounds_succ]; go_wp2_with (first | (go_at_call 24; refine (within0 _ _).mono ?_; rintro e w' ⟨rfl, rfl⟩) | (go_at_call 25; (with_reducible refine (cturn 4607182418800017408 0 9223372036854775808 _ (by decide +kernel)).mono ?_); rintro e w' ⟨rfl, rfl⟩) | (go_at_call 25; (with_reducible refine (cturn 9223372036854775808 4607182418800017408 13830554455654793216 _ (by decide +kernel)).mono ?_); rintro e w' ⟨rfl, rfl⟩) | (go_at_call 26; (with_reducible refine (cplain 13830554455654793216 9223372036854775808 13830554455654793216 0 _ (by decide +kernel) (by decide +kernel)).mono ?_); rintro e w' ⟨rfl, rfl⟩)))
  refine wp_loop_rounds 5 ?_
  repeat any_goals (rw [rounds_succ]; go_wp2_with (first | (go_at_call 24; refine (within0 _ _).mono ?_; rintro e w' ⟨rfl, rfl⟩) | (go_at_call 25; (with_reducible refine (cturn 4607182418800017408 0 9223372036854775808 _ (by decide +kernel)).mono ?_); rintro e w' ⟨rfl, rfl⟩) | (go_at_call 25; (with_reducible refine (cturn 9223372036854775808 4607182418800017408 13830554455654793216 _ (by decide +kernel)).mono ?_); rintro e w' ⟨rfl, rfl⟩) | (go_at_call 26; (with_reducible refine (cplain 13830554455654793216 9223372036854775808 13830554455654793216 0 _ (by decide +kernel) (by decide +kernel)).mono ?_); rintro e w' ⟨rfl, rfl⟩)))
  go_ret2
  exact ⟨rfl, rfl⟩
set_option maxHeartbeats 400000 in
theorem turn_20 (w : World) :
    Calls Tryz.prog 23 #[.int .i64 0, .int .i64 2] w fun e w' => e = .returned (.tuple #[.complex .f64 4607182418800017408 0, .int .i64 0]) ∧ w = w' := by
  have b1 : bits BinOp.and IntKind.i64 0 3 = 0 := by decide +kernel
  have b2 : wrap64 0 = 0 := by decide +kernel
  go_enter Tryz.func23, Tryz.ntmps23
  go_wp2
  refine wp_loop_rounds 2 ?_
  repeat any_goals (rw [rounds_succ]; go_wp2_with (first | (go_at_call 24; refine (within0 _ _).mono ?_; rintro e w' ⟨rfl, rfl⟩) | (go_at_call 26; (with_reducible refine (cplain 4607182418800017408 0 4607182418800017408 0 _ (by decide +kernel) (by decide +kernel)).mono ?_); rintro e w' ⟨rfl, rfl⟩)))
  refine wp_loop_rounds 5 ?_
  repeat any_goals (rw [rounds_succ]; go_wp2_with (first | (go_at_call 24; refine (within0 _ _).mono ?_; rintro e w' ⟨rfl, rfl⟩) | (go_at_call 26; (with_reducible refine (cplain 4607182418800017408 0 4607182418800017408 0 _ (by decide +kernel) (by decide +kernel)).mono ?_); rintro e w' ⟨rfl, rfl⟩)))
  go_ret2
  exact ⟨rfl, rfl⟩
set_option maxHeartbeats 400000 in
theorem turn_21 (w : World) :
    Calls Tryz.prog 23 #[.int .i64 1, .int .i64 2] w fun e w' => e = .returned (.tuple #[.complex .f64 0 4607182418800017408, .int .i64 0]) ∧ w = w' := by
  have b1 : bits BinOp.and IntKind.i64 1 3 = 1 := by decide +kernel
  have b2 : wrap64 0 = 0 := by decide +kernel
  go_enter Tryz.func23, Tryz.ntmps23
  go_wp2
  refine wp_loop_rounds 2 ?_
  repeat any_goals (rw [rounds_succ]; go_wp2_with (first | (go_at_call 24; refine (within0 _ _).mono ?_; rintro e w' ⟨rfl, rfl⟩) | (go_at_call 25; (with_reducible refine (cturn 4607182418800017408 0 9223372036854775808 _ (by decide +kernel)).mono ?_); rintro e w' ⟨rfl, rfl⟩) | (go_at_call 26; (with_reducible refine (cplain 9223372036854775808 4607182418800017408 0 4607182418800017408 _ (by decide +kernel) (by decide +kernel)).mono ?_); rintro e w' ⟨rfl, rfl⟩)))
  refine wp_loop_rounds 5 ?_
  repeat any_goals (rw [rounds_succ]; go_wp2_with (first | (go_at_call 24; refine (within0 _ _).mono ?_; rintro e w' ⟨rfl, rfl⟩) | (go_at_call 25; (with_reducible refine (cturn 4607182418800017408 0 9223372036854775808 _ (by decide +kernel)).mono ?_); rintro e w' ⟨rfl, rfl⟩) | (go_at_call 26; (with_reducible refine (cplain 9223372036854775808 4607182418800017408 0 4607182418800017408 _ (by decide +kernel) (by decide +kernel)).mono ?_); rintro e w' ⟨rfl, rfl⟩)))
  go_ret2
  exact ⟨rfl, rfl⟩
set_option maxHeartbeats 400000 in
theorem turn_22 (w : World) :
    Calls Tryz.prog 23 #[.int .i64 2, .int .i64 2] w fun e w' => e = .returned (.tuple #[.complex .f64 13830554455654793216 0, .int .i64 0]) ∧ w = w' := by
  have b1 : bits BinOp.and IntKind.i64 2 3 = 2 := by decide +kernel
  have b2 : wrap64 0 = 0 := by decide +kernel
  go_enter Tryz.func23, Tryz.ntmps23
  go_wp2
  refine wp_loop_rounds 2 ?_
  repeat any_goals (rw [rounds_succ]; go_wp2_with (first | (go_at_call 24; refine (within0 _ _).mono ?_; rintro e w' ⟨rfl, rfl⟩) | (go_at_call 25; (with_reducible refine (cturn 4607182418800017408 0 9223372036854775808 _ (by decide +kernel)).mono ?_); rintro e w' ⟨rfl, rfl⟩) | (go_at_call 25; (with_reducible refine (cturn 9223372036854775808 4607182418800017408 13830554455654793216 _ (by decide +kernel)).mono ?_); rintro e w' ⟨rfl, rfl⟩) | (go_at_call 26; (with_reducible refine (cplain 13830554455654793216 9223372036854775808 13830554455654793216 0 _ (by decide +kernel) (by decide +kernel)).mono ?_); rintro e w' ⟨rfl, rfl⟩)))
  refine wp_loop_rounds 5 ?_
  repeat any_goals (rw [rounds_succ]; go_wp2_with (first | (go_at_call 24; refine (within0 _ _).mono ?_; rintro e w' ⟨rfl, rfl⟩) | (go_at_call 25; (with_reducible refine (cturn 4607182418800017408 0 9223372036854775808 _ (by decide +kernel)).mono ?_); rintro e w' ⟨rfl, rfl⟩) | (go_at_call 25; (with_reducible refine (cturn 9223372036854775808 4607182418800017408 13830554455654793216 _ (by decide +kernel)).mono ?_); rintro e w' ⟨rfl, rfl⟩) | (go_at_call 26; (with_reducible refine (cplain 13830554455654793216 9223372036854775808 13830554455654793216 0 _ (by decide +kernel) (by decide +kernel)).mono ?_); rintro e w' ⟨rfl, rfl⟩)))
  go_ret2
  exact ⟨rfl, rfl⟩
set_option maxHeartbeats 400000 in
theorem turn_23 (w : World) :
    Calls Tryz.prog 23 #[.int .i64 3, .int .i64 2] w fun e w' => e = .returned (.tuple #[.complex .f64 0 13830554455654793216, .int .i64 0]) ∧ w = w' := by
  have b1 : bits BinOp.and IntKind.i64 3 3 = 3 := by decide +kernel
  have b2 : wrap64 0 = 0 := by decide +kernel
  go_enter Tryz.func23, Tryz.ntmps23
  go_wp2
  refine wp_loop_rounds 2 ?_
  repeat any_goals (rw [rounds_succ]; go_wp2_with (first | (go_at_call 24; refine (within0 _ _).mono ?_; rintro e w' ⟨rfl, rfl⟩) | (go_at_call 25; (with_reducible refine (cturn 4607182418800017408 0 9223372036854775808 _ (by decide +kernel)).mono ?_); rintro e w' ⟨rfl, rfl⟩) | (go_at_call 25; (with_reducible refine (cturn 9223372036854775808 4607182418800017408 13830554455654793216 _ (by decide +kernel)).mono ?_); rintro e w' ⟨rfl, rfl⟩) | (go_at_call 25; (with_reducible refine (cturn 13830554455654793216 9223372036854775808 0 _ (by decide +kernel)).mono ?_); rintro e w' ⟨rfl, rfl⟩) | (go_at_call 26; (with_reducible refine (cplain 0 13830554455654793216 0 13830554455654793216 _ (by decide +kernel) (by decide +kernel)).mono ?_); rintro e w' ⟨rfl, rfl⟩)))
  refine wp_loop_rounds 5 ?_
  repeat any_goals (rw [rounds_succ]; go_wp2_with (first | (go_at_call 24; refine (within0 _ _).mono ?_; rintro e w' ⟨rfl, rfl⟩) | (go_at_call 25; (with_reducible refine (cturn 4607182418800017408 0 9223372036854775808 _ (by decide +kernel)).mono ?_); rintro e w' ⟨rfl, rfl⟩) | (go_at_call 25; (with_reducible refine (cturn 9223372036854775808 4607182418800017408 13830554455654793216 _ (by decide +kernel)).mono ?_); rintro e w' ⟨rfl, rfl⟩) | (go_at_call 25; (with_reducible refine (cturn 13830554455654793216 9223372036854775808 0 _ (by decide +kernel)).mono ?_); rintro e w' ⟨rfl, rfl⟩) | (go_at_call 26; (with_reducible refine (cplain 0 13830554455654793216 0 13830554455654793216 _ (by decide +kernel) (by decide +kernel)).mono ?_); rintro e w' ⟨rfl, rfl⟩)))
  go_ret2
  exact ⟨rfl, rfl⟩
@[go_sem] theorem setCell_drewN' (w : World) (n : Nat) (a : Addr) (v : Value) : (w.drewN n).setCell a v = (w.setCell a v).drewN n := by
  induction n generalizing w with
  | zero => simp only [World.drewN_zero]
  | succ n ih => rw [← World.drew_drewN, ← World.drew_drewN, World.setCell_drew, ih]
@[go_sem] theorem alloc_drewN' (w : World) (n : Nat) (o : Obj) : (w.drewN n).alloc o = (w.alloc o).drewN n := by
  induction n generalizing w with
  | zero => simp only [World.drewN_zero]
  | succ n ih => rw [← World.drew_drewN, ← World.drew_drewN, World.alloc_drew, ih]
@[go_sem] theorem run_store_complex (P : Program) (w : World) (a : Addr) (m : Mode) (k : FloatKind) (x y : Nat) : (store a (.complex k x y) m).run P w = stored P w a (.complex k x y) m := run_store P w a _ m rfl
def Four (w : World) (g : Nat) (z0 z1 z2 z3 : Value) : Prop :=
  g < w.heap.size ∧ w.cell? ⟨g, 0, none⟩ = some z0 ∧ w.cell? ⟨g, 1, none⟩ = some z1 ∧ w.cell? ⟨g, 2, none⟩ = some z2 ∧ w.cell? ⟨g, 3, none⟩ = some z3
def Melt (w : World) (g : Nat) : Prop := w.frozen? ⟨g, 0, none⟩ = false ∧ w.frozen? ⟨g, 1, none⟩ = false ∧ w.frozen? ⟨g, 2, none⟩ = false ∧ w.frozen? ⟨g, 3, none⟩ = false
def SameC (a b c d : Nat) : Prop := (!((FloatKind.f64.format.order a c == some .eq) && (FloatKind.f64.format.order b d == some .eq))) = false
theorem quiet_add_left {P : Program} {f : FuncId} {args : Array Value} {w : World} {a n : Nat} {v : Value}
    (h : Calls P f args (w.drewN (a + n)) fun e w' => e = .returned v ∧ w.drewN (a + n) = w') :
    Calls P f args (w.drewN (a + n)) fun e w'' => e = .returned v ∧ ∃ m, w'' = w.drewN (a + m) :=
  h.mono fun _ _ ⟨he, hm⟩ => ⟨he, n, hm.symm⟩
theorem quiet_left {P : Program} {f : FuncId} {args : Array Value} {w : World} {n : Nat} {v : Value}
    (h : Calls P f args (w.drewN n) fun e w' => e = .returned v ∧ w.drewN n = w') : Calls P f args (w.drewN n) fun e w'' => e = .returned v ∧ ∃ m, w'' = w.drewN m :=
  h.mono fun _ _ ⟨he, hm⟩ => ⟨he, n, hm.symm⟩
set_option maxHeartbeats 400000 in
theorem turns1 (w : World) :
    Calls Tryz.prog 19 #[.int .i64 1] w fun e w' => e = .returned (.tuple #[.slice (some ⟨w.heap.size, 0, none⟩) 2 2, .int .i64 0]) ∧ w' = w.alloc (.cells #[.complex .f64 4607182418800017408 0, .complex .f64 13830554455654793216 0] 34 (0, 0)) := by
  have hmk : ∀ w, (Instr.makeSlice 29 (.int .i64 2) (.int .i64 2)).run Tryz.prog w = .ok (.slice (some ⟨w.heap.size, 0, none⟩) 2 2) (w.alloc (.cells #[.complex .f64 0 0, .complex .f64 0 0] 34 (0, 0))) := fun _ => by kernel_rfl
  go_enter Tryz.func19, Tryz.ntmps19
  go_wp2
  refine wp_loop_rounds 5 ?_
  repeat any_goals (rw [rounds_succ]; go_wp2_with (first | (go_at_call 23; (with_reducible refine (turn_10 _).mono ?_); rintro e w' ⟨rfl, rfl⟩) | (go_at_call 23; (with_reducible refine (turn_11 _).mono ?_); rintro e w' ⟨rfl, rfl⟩)))
  go_ret2
  exact ⟨rfl, rfl⟩
set_option maxHeartbeats 400000 in
theorem turns2 (w : World) :
    Calls Tryz.prog 19 #[.int .i64 2] w fun e w' => e = .returned (.tuple #[.slice (some ⟨w.heap.size, 0, none⟩) 4 4, .int .i64 0]) ∧ w' = w.alloc (.cells #[.complex .f64 4607182418800017408 0, .complex .f64 0 4607182418800017408, .complex .f64 13830554455654793216 0, .complex .f64 0 13830554455654793216] 34 (0, 0)) := by
  have hmk : ∀ w, (Instr.makeSlice 29 (.int .i64 4) (.int .i64 4)).run Tryz.prog w = .ok (.slice (some ⟨w.heap.size, 0, none⟩) 4 4) (w.alloc (.cells #[.complex .f64 0 0, .complex .f64 0 0, .complex .f64 0 0, .complex .f64 0 0] 34 (0, 0))) := fun _ => by kernel_rfl
  go_enter Tryz.func19, Tryz.ntmps19
  go_wp2
  refine wp_loop_rounds 5 ?_
  repeat any_goals (rw [rounds_succ]; go_wp2_with (first | (go_at_call 23; (with_reducible refine (turn_20 _).mono ?_); rintro e w' ⟨rfl, rfl⟩) | (go_at_call 23; (with_reducible refine (turn_21 _).mono ?_); rintro e w' ⟨rfl, rfl⟩) | (go_at_call 23; (with_reducible refine (turn_22 _).mono ?_); rintro e w' ⟨rfl, rfl⟩) | (go_at_call 23; (with_reducible refine (turn_23 _).mono ?_); rintro e w' ⟨rfl, rfl⟩)))
  go_ret2
  exact ⟨rfl, rfl⟩
set_option maxRecDepth 100000 in
set_option maxHeartbeats 400000 in
theorem len64_4 (w : World) :
    Calls Tryz.prog 22 #[.int .u64 4] w fun e w' => e = .returned (.int .i64 3) ∧ w = w' := by
  go_enter Tryz.func22, Tryz.ntmps22
  go_wp2
  go_ret
  exact ⟨by kernel_rfl, rfl⟩
set_option maxHeartbeats 400000 in
theorem len_4 (w : World) :
    Calls Tryz.prog 18 #[.int .u64 4] w fun e w' => e = .returned (.int .i64 3) ∧ w = w' := by
  go_enter Tryz.func18, Tryz.ntmps18
  go_wp2_with (go_at_call 22; refine (len64_4 _).mono ?_; rintro e w' ⟨rfl, rfl⟩)
  go_ret
  exact ⟨rfl, rfl⟩
set_option maxHeartbeats 400000 in
theorem power4 (w : World) :
    Calls Tryz.prog 12 #[.int .i64 4] w fun e w' => e = .returned (.tuple #[.int .i64 2, .int .i64 0]) ∧ w = w' := by
  have b2 : wrap64 4 = 4 := by decide +kernel
  have b3 : IntKind.u64.wrap 4 = 4 := by decide +kernel
  go_enter Tryz.func12, Tryz.ntmps12
  go_wp2_with (go_at_call 18; refine (len_4 _).mono ?_; rintro e w' ⟨rfl, rfl⟩)
  go_ret2
  exact ⟨rfl, rfl⟩
theorem rev_02 (w : World) : Calls Tryz.prog 5 #[.int .i64 0, .int .i64 2] w fun e w' => e = .returned (.tuple #[.int .i64 0, .int .i64 0]) ∧ w = w' := by
  have h := reverse_yes 0 2 w (by decide) (by decide) (by decide +kernel)
  rw [show revs 2 ((0 : Nat) : Int) = 0 by decide +kernel] at h
  exact h
theorem rev_12 (w : World) : Calls Tryz.prog 5 #[.int .i64 1, .int .i64 2] w fun e w' => e = .returned (.tuple #[.int .i64 2, .int .i64 0]) ∧ w = w' := by
  have h := reverse_yes 1 2 w (by decide) (by decide) (by decide +kernel)
  rw [show revs 2 ((1 : Nat) : Int) = 2 by decide +kernel] at h
  exact h
theorem rev_22 (w : World) : Calls Tryz.prog 5 #[.int .i64 2, .int .i64 2] w fun e w' => e = .returned (.tuple #[.int .i64 1, .int .i64 0]) ∧ w = w' := by
  have h := reverse_yes 2 2 w (by decide) (by decide) (by decide +kernel)
  rw [show revs 2 ((2 : Nat) : Int) = 1 by decide +kernel] at h
  exact h
theorem rev_32 (w : World) : Calls Tryz.prog 5 #[.int .i64 3, .int .i64 2] w fun e w' => e = .returned (.tuple #[.int .i64 3, .int .i64 0]) ∧ w = w' := by
  have h := reverse_yes 3 2 w (by decide) (by decide) (by decide +kernel)
  rw [show revs 2 ((3 : Nat) : Int) = 3 by decide +kernel] at h
  exact h
theorem rev_63 (w : World) : Calls Tryz.prog 5 #[.int .i64 6, .int .i64 3] w fun e w' => e = .returned (.tuple #[.int .i64 3, .int .i64 0]) ∧ w = w' := by
  have h := reverse_yes 6 3 w (by decide) (by decide) (by decide +kernel)
  rw [show revs 3 ((6 : Nat) : Int) = 3 by decide +kernel] at h
  exact h
theorem cid (a b : Nat) (w : World) :
    Calls Tryz.prog 15 #[.complex .f64 a b] w fun e w' => e = .returned (.complex .f64 a b) ∧ w = w' := by
  go_enter Tryz.func15, Tryz.ntmps15
  go_wp2
  go_ret
  exact ⟨rfl, rfl⟩
set_option maxHeartbeats 400000 in
theorem cmul (a b c d ac bd ad bc re im : Nat) (w : World) (h1 : floatBits .mul .f64 a c = some ac) (h2 : floatBits .mul .f64 b d = some bd) (h3 : floatBits .mul .f64 a d = some ad) (h4 : floatBits .mul .f64 b c = some bc) (h5 : floatBits .sub .f64 ac bd = some re) (h6 : floatBits .add .f64 ad bc = some im) :
    Calls Tryz.prog 20 #[.complex .f64 a b, .complex .f64 c d] w fun e w' => e = .returned (.complex .f64 re im) ∧ w = w' := by
  have a1 := fun (w : World) => run_float_arith (P := Tryz.prog) w .mul 42 .f64 _ _ _ h1
  have a2 := fun (w : World) => run_float_arith (P := Tryz.prog) w .mul 42 .f64 _ _ _ h2
  have a3 := fun (w : World) => run_float_arith (P := Tryz.prog) w .mul 42 .f64 _ _ _ h3
  have a4 := fun (w : World) => run_float_arith (P := Tryz.prog) w .mul 42 .f64 _ _ _ h4
  have a5 := fun (w : World) => run_float_arith (P := Tryz.prog) w .sub 42 .f64 _ _ _ h5
  have a6 := fun (w : World) => run_float_arith (P := Tryz.prog) w .add 42 .f64 _ _ _ h6
  clear h1 h2 h3 h4 h5 h6
  go_enter Tryz.func20, Tryz.ntmps20
  go_wp2
  go_ret
  exact ⟨rfl, rfl⟩
theorem mul_0 (w : World) : Calls Tryz.prog 20 #[.complex .f64 4607182418800017408 9223372036854775808, .complex .f64 4613937818241073152 0] w fun e w' => e = .returned (.complex .f64 4613937818241073152 0) ∧ w = w' :=
  cmul 4607182418800017408 9223372036854775808 4613937818241073152 0 4613937818241073152 9223372036854775808 0 9223372036854775808 4613937818241073152 0 w (by decide +kernel) (by decide +kernel) (by decide +kernel) (by decide +kernel) (by decide +kernel) (by decide +kernel)
theorem mul_1 (w : World) : Calls Tryz.prog 20 #[.complex .f64 4607182418800017408 9223372036854775808, .complex .f64 4616189618054758400 0] w fun e w' => e = .returned (.complex .f64 4616189618054758400 0) ∧ w = w' :=
  cmul 4607182418800017408 9223372036854775808 4616189618054758400 0 4616189618054758400 9223372036854775808 0 9223372036854775808 4616189618054758400 0 w (by decide +kernel) (by decide +kernel) (by decide +kernel) (by decide +kernel) (by decide +kernel) (by decide +kernel)
theorem mul_2 (w : World) : Calls Tryz.prog 20 #[.complex .f64 4607182418800017408 9223372036854775808, .complex .f64 4618441417868443648 0] w fun e w' => e = .returned (.complex .f64 4618441417868443648 0) ∧ w = w' :=
  cmul 4607182418800017408 9223372036854775808 4618441417868443648 0 4618441417868443648 9223372036854775808 0 9223372036854775808 4618441417868443648 0 w (by decide +kernel) (by decide +kernel) (by decide +kernel) (by decide +kernel) (by decide +kernel) (by decide +kernel)
theorem mul_3 (w : World) : Calls Tryz.prog 20 #[.complex .f64 0 13830554455654793216, .complex .f64 13835058055282163712 0] w fun e w' => e = .returned (.complex .f64 0 4611686018427387904) ∧ w = w' :=
  cmul 0 13830554455654793216 13835058055282163712 0 9223372036854775808 9223372036854775808 0 4611686018427387904 0 4611686018427387904 w (by decide +kernel) (by decide +kernel) (by decide +kernel) (by decide +kernel) (by decide +kernel) (by decide +kernel)
theorem mul_4 (w : World) : Calls Tryz.prog 20 #[.complex .f64 4607182418800017408 0, .complex .f64 13835058055282163712 0] w fun e w' => e = .returned (.complex .f64 13835058055282163712 0) ∧ w = w' :=
  cmul 4607182418800017408 0 13835058055282163712 0 13835058055282163712 0 0 9223372036854775808 13835058055282163712 0 w (by decide +kernel) (by decide +kernel) (by decide +kernel) (by decide +kernel) (by decide +kernel) (by decide +kernel)
theorem mul_5 (w : World) : Calls Tryz.prog 20 #[.complex .f64 4607182418800017408 0, .complex .f64 13835058055282163712 13835058055282163712] w fun e w' => e = .returned (.complex .f64 13835058055282163712 13835058055282163712) ∧ w = w' :=
  cmul 4607182418800017408 0 13835058055282163712 13835058055282163712 13835058055282163712 9223372036854775808 13835058055282163712 9223372036854775808 13835058055282163712 13835058055282163712 w (by decide +kernel) (by decide +kernel) (by decide +kernel) (by decide +kernel) (by decide +kernel) (by decide +kernel)
theorem mul_6 (w : World) : Calls Tryz.prog 20 #[.complex .f64 4607182418800017408 0, .complex .f64 13839561654909534208 0] w fun e w' => e = .returned (.complex .f64 13839561654909534208 0) ∧ w = w' :=
  cmul 4607182418800017408 0 13839561654909534208 0 13839561654909534208 0 0 9223372036854775808 13839561654909534208 0 w (by decide +kernel) (by decide +kernel) (by decide +kernel) (by decide +kernel) (by decide +kernel) (by decide +kernel)
theorem mul_7 (w : World) : Calls Tryz.prog 20 #[.complex .f64 0 4607182418800017408, .complex .f64 0 4616189618054758400] w fun e w' => e = .returned (.complex .f64 13839561654909534208 0) ∧ w = w' :=
  cmul 0 4607182418800017408 0 4616189618054758400 0 4616189618054758400 0 0 13839561654909534208 0 w (by decide +kernel) (by decide +kernel) (by decide +kernel) (by decide +kernel) (by decide +kernel) (by decide +kernel)
set_option maxRecDepth 100000 in
set_option maxHeartbeats 4000000 in
theorem steps1 (b : Nat) (w : World) (hb : b < w.heap.size) (c0 : w.cell? ⟨b, 0, none⟩ = some (.complex .f64 4607182418800017408 0)) (c1 : w.cell? ⟨b, 1, none⟩ = some (.complex .f64 4611686018427387904 0)) (c2 : w.cell? ⟨b, 2, none⟩ = some (.complex .f64 4613937818241073152 0)) (c3 : w.cell? ⟨b, 3, none⟩ = some (.complex .f64 4616189618054758400 0)) :
    Calls Tryz.prog 13 #[.slice (some ⟨b, 0, none⟩) 4 4, .int .i64 2, .func (.func 14) #[] #[]] w fun e w' => e = .returned (.slice (some ⟨w.heap.size, 0, none⟩) 4 4) ∧ Four w' w.heap.size (.complex .f64 4621819117588971520 0) (.complex .f64 13835058055282163712 4611686018427387904) (.complex .f64 13835058055282163712 0) (.complex .f64 13835058055282163712 13835058055282163712) ∧ Melt w' w.heap.size ∧ Below w.heap.size w w' := by
  have hmk : ∀ w, (Instr.makeSlice 29 (.int .i64 4) (.int .i64 4)).run Tryz.prog w = .ok (.slice (some ⟨w.heap.size, 0, none⟩) 4 4) (w.alloc (.cells #[.complex .f64 0 0, .complex .f64 0 0, .complex .f64 0 0, .complex .f64 0 0] 34 (0, 0))) := fun _ => by kernel_rfl
  have s0 := fun (w : World) => run_complex_sum (P := Tryz.prog) w .add (by simp) 34 .f64 4607182418800017408 0 4613937818241073152 0 4616189618054758400 0 (by decide +kernel)
  have s1 := fun (w : World) => run_complex_sum (P := Tryz.prog) w .sub (by simp) 34 .f64 4607182418800017408 0 4613937818241073152 0 13835058055282163712 0 (by decide +kernel)
  have s2 := fun (w : World) => run_complex_sum (P := Tryz.prog) w .add (by simp) 34 .f64 4611686018427387904 0 4616189618054758400 0 4618441417868443648 0 (by decide +kernel)
  have s3 := fun (w : World) => run_complex_sum (P := Tryz.prog) w .sub (by simp) 34 .f64 4611686018427387904 0 4616189618054758400 0 13835058055282163712 0 (by decide +kernel)
  have s4 := fun (w : World) => run_complex_sum (P := Tryz.prog) w .add (by simp) 34 .f64 4616189618054758400 0 4618441417868443648 0 4621819117588971520 0 (by decide +kernel)
  have s5 := fun (w : World) => run_complex_sum (P := Tryz.prog) w .sub (by simp) 34 .f64 4616189618054758400 0 4618441417868443648 0 13835058055282163712 0 (by decide +kernel)
  have s6 := fun (w : World) => run_complex_sum (P := Tryz.prog) w .add (by simp) 34 .f64 13835058055282163712 0 0 4611686018427387904 13835058055282163712 4611686018427387904 (by decide +kernel)
  have s7 := fun (w : World) => run_complex_sum (P := Tryz.prog) w .sub (by simp) 34 .f64 13835058055282163712 0 0 4611686018427387904 13835058055282163712 13835058055282163712 (by decide +kernel)
  go_enter Tryz.func13, Tryz.ntmps13
  go_wp2_with fail
  refine wp_loop_rounds 5 ?_
  repeat any_goals (rw [rounds_succ]; go_wp2_with (first | (go_at_call 5; (with_reducible refine (rev_02 _).mono ?_); rintro e w' ⟨rfl, rfl⟩) | (go_at_call 5; (with_reducible refine (rev_12 _).mono ?_); rintro e w' ⟨rfl, rfl⟩) | (go_at_call 5; (with_reducible refine (rev_22 _).mono ?_); rintro e w' ⟨rfl, rfl⟩) | (go_at_call 5; (with_reducible refine (rev_32 _).mono ?_); rintro e w' ⟨rfl, rfl⟩) | (go_at_call 19; (with_reducible refine (turns1 _).mono ?_); rintro e w' ⟨rfl, rfl⟩) | (go_at_call 19; (with_reducible refine (turns2 _).mono ?_); rintro e w' ⟨rfl, rfl⟩)))
  repeat any_goals (first | (rw [rounds_succ]; go_wp2_with (first | (go_at_call 5; (with_reducible refine (rev_02 _).mono ?_); rintro e w' ⟨rfl, rfl⟩) | (go_at_call 5; (with_reducible refine (rev_12 _).mono ?_); rintro e w' ⟨rfl, rfl⟩) | (go_at_call 5; (with_reducible refine (rev_22 _).mono ?_); rintro e w' ⟨rfl, rfl⟩) | (go_at_call 5; (with_reducible refine (rev_32 _).mono ?_); rintro e w' ⟨rfl, rfl⟩) | (go_at_call 19; (with_reducible refine (turns1 _).mono ?_); rintro e w' ⟨rfl, rfl⟩) | (go_at_call 19; (with_reducible refine (turns2 _).mono ?_); rintro e w' ⟨rfl, rfl⟩))) | (refine wp_loop_rounds 4 ?_) | (go_quiet ((first | (go_at_call 14; (first | (with_reducible exact quiet_left (cconj 4607182418800017408 0 9223372036854775808 _ (by decide +kernel))) | (with_reducible exact quiet_add_left (cconj 4607182418800017408 0 9223372036854775808 _ (by decide +kernel))))) | (go_at_call 14; (first | (with_reducible exact quiet_left (cconj 0 4607182418800017408 13830554455654793216 _ (by decide +kernel))) | (with_reducible exact quiet_add_left (cconj 0 4607182418800017408 13830554455654793216 _ (by decide +kernel))))) | (go_at_call 20; (first | (with_reducible exact quiet_left (mul_0 _)) | (with_reducible exact quiet_add_left (mul_0 _)))) | (go_at_call 20; (first | (with_reducible exact quiet_left (mul_1 _)) | (with_reducible exact quiet_add_left (mul_1 _)))) | (go_at_call 20; (first | (with_reducible exact quiet_left (mul_2 _)) | (with_reducible exact quiet_add_left (mul_2 _)))) | (go_at_call 20; (first | (with_reducible exact quiet_left (mul_3 _)) | (with_reducible exact quiet_add_left (mul_3 _)))))); go_wp2_with fail))
  go_ret
  refine ⟨rfl, ⟨?_, ?_, ?_, ?_, ?_⟩, ⟨?_, ?_, ?_, ?_⟩, ?_⟩
  · simp [go_sem]
    try omega
  · go_cell
  · go_cell
  · go_cell
  · go_cell
  · go_cell
  · go_cell
  · go_cell
  · go_cell
  · repeat' (first | (with_reducible exact Below.refl _ _) | (with_reducible refine Below.setCell ?_ ?_ _) | (with_reducible refine Below.alloc ?_ ?_ _) | (with_reducible refine below_drewN ?_ _) | go_size)
set_option maxRecDepth 100000 in
set_option maxHeartbeats 4000000 in
theorem steps2 (b : Nat) (w : World) (hb : b < w.heap.size) (c0 : w.cell? ⟨b, 0, none⟩ = some (.complex .f64 4621819117588971520 0)) (c1 : w.cell? ⟨b, 1, none⟩ = some (.complex .f64 13835058055282163712 4611686018427387904)) (c2 : w.cell? ⟨b, 2, none⟩ = some (.complex .f64 13835058055282163712 0)) (c3 : w.cell? ⟨b, 3, none⟩ = some (.complex .f64 13835058055282163712 13835058055282163712)) :
    Calls Tryz.prog 13 #[.slice (some ⟨b, 0, none⟩) 4 4, .int .i64 2, .func (.func 15) #[] #[]] w fun e w' => e = .returned (.slice (some ⟨w.heap.size, 0, none⟩) 4 4) ∧ Four w' w.heap.size (.complex .f64 4616189618054758400 0) (.complex .f64 4620693217682128896 0) (.complex .f64 4622945017495814144 0) (.complex .f64 4625196817309499392 0) ∧ Melt w' w.heap.size ∧ Below w.heap.size w w' := by
  have hmk : ∀ w, (Instr.makeSlice 29 (.int .i64 4) (.int .i64 4)).run Tryz.prog w = .ok (.slice (some ⟨w.heap.size, 0, none⟩) 4 4) (w.alloc (.cells #[.complex .f64 0 0, .complex .f64 0 0, .complex .f64 0 0, .complex .f64 0 0] 34 (0, 0))) := fun _ => by kernel_rfl
  have s0 := fun (w : World) => run_complex_sum (P := Tryz.prog) w .add (by simp) 34 .f64 4621819117588971520 0 13835058055282163712 0 4620693217682128896 0 (by decide +kernel)
  have s1 := fun (w : World) => run_complex_sum (P := Tryz.prog) w .sub (by simp) 34 .f64 4621819117588971520 0 13835058055282163712 0 4622945017495814144 0 (by decide +kernel)
  have s2 := fun (w : World) => run_complex_sum (P := Tryz.prog) w .add (by simp) 34 .f64 13835058055282163712 4611686018427387904 13835058055282163712 13835058055282163712 13839561654909534208 0 (by decide +kernel)
  have s3 := fun (w : World) => run_complex_sum (P := Tryz.prog) w .sub (by simp) 34 .f64 13835058055282163712 4611686018427387904 13835058055282163712 13835058055282163712 0 4616189618054758400 (by decide +kernel)
  have s4 := fun (w : World) => run_complex_sum (P := Tryz.prog) w .add (by simp) 34 .f64 4620693217682128896 0 13839561654909534208 0 4616189618054758400 0 (by decide +kernel)
  have s5 := fun (w : World) => run_complex_sum (P := Tryz.prog) w .sub (by simp) 34 .f64 4620693217682128896 0 13839561654909534208 0 4622945017495814144 0 (by decide +kernel)
  have s6 := fun (w : World) => run_complex_sum (P := Tryz.prog) w .add (by simp) 34 .f64 4622945017495814144 0 13839561654909534208 0 4620693217682128896 0 (by decide +kernel)
  have s7 := fun (w : World) => run_complex_sum (P := Tryz.prog) w .sub (by simp) 34 .f64 4622945017495814144 0 13839561654909534208 0 4625196817309499392 0 (by decide +kernel)
  go_enter Tryz.func13, Tryz.ntmps13
  go_wp2_with fail
  refine wp_loop_rounds 5 ?_
  repeat any_goals (rw [rounds_succ]; go_wp2_with (first | (go_at_call 5; (with_reducible refine (rev_02 _).mono ?_); rintro e w' ⟨rfl, rfl⟩) | (go_at_call 5; (with_reducible refine (rev_12 _).mono ?_); rintro e w' ⟨rfl, rfl⟩) | (go_at_call 5; (with_reducible refine (rev_22 _).mono ?_); rintro e w' ⟨rfl, rfl⟩) | (go_at_call 5; (with_reducible refine (rev_32 _).mono ?_); rintro e w' ⟨rfl, rfl⟩) | (go_at_call 19; (with_reducible refine (turns1 _).mono ?_); rintro e w' ⟨rfl, rfl⟩) | (go_at_call 19; (with_reducible refine (turns2 _).mono ?_); rintro e w' ⟨rfl, rfl⟩)))
  repeat any_goals (first | (rw [rounds_succ]; go_wp2_with (first | (go_at_call 5; (with_reducible refine (rev_02 _).mono ?_); rintro e w' ⟨rfl, rfl⟩) | (go_at_call 5; (with_reducible refine (rev_12 _).mono ?_); rintro e w' ⟨rfl, rfl⟩) | (go_at_call 5; (with_reducible refine (rev_22 _).mono ?_); rintro e w' ⟨rfl, rfl⟩) | (go_at_call 5; (with_reducible refine (rev_32 _).mono ?_); rintro e w' ⟨rfl, rfl⟩) | (go_at_call 19; (with_reducible refine (turns1 _).mono ?_); rintro e w' ⟨rfl, rfl⟩) | (go_at_call 19; (with_reducible refine (turns2 _).mono ?_); rintro e w' ⟨rfl, rfl⟩))) | (refine wp_loop_rounds 4 ?_) | (go_quiet ((first | (go_at_call 15; (first | (with_reducible exact quiet_left (cid 4607182418800017408 0 _)) | (with_reducible exact quiet_add_left (cid 4607182418800017408 0 _)))) | (go_at_call 15; (first | (with_reducible exact quiet_left (cid 0 4607182418800017408 _)) | (with_reducible exact quiet_add_left (cid 0 4607182418800017408 _)))) | (go_at_call 20; (first | (with_reducible exact quiet_left (mul_4 _)) | (with_reducible exact quiet_add_left (mul_4 _)))) | (go_at_call 20; (first | (with_reducible exact quiet_left (mul_5 _)) | (with_reducible exact quiet_add_left (mul_5 _)))) | (go_at_call 20; (first | (with_reducible exact quiet_left (mul_6 _)) | (with_reducible exact quiet_add_left (mul_6 _)))) | (go_at_call 20; (first | (with_reducible exact quiet_left (mul_7 _)) | (with_reducible exact quiet_add_left (mul_7 _)))))); go_wp2_with fail))
  go_ret
  refine ⟨rfl, ⟨?_, ?_, ?_, ?_, ?_⟩, ⟨?_, ?_, ?_, ?_⟩, ?_⟩
  · simp [go_sem]
    try omega
  · go_cell
  · go_cell
  · go_cell
  · go_cell
  · go_cell
  · go_cell
  · go_cell
  · go_cell
  · repeat' (first | (with_reducible exact Below.refl _ _) | (with_reducible refine Below.setCell ?_ ?_ _) | (with_reducible refine Below.alloc ?_ ?_ _) | (with_reducible refine below_drewN ?_ _) | go_size)
set_option maxHeartbeats 1000000 in
theorem equal_yes (g h : Nat) (w : World) (a0 b0 a1 b1 a2 b2 a3 b3 c0 d0 c1 d1 c2 d2 c3 d3 : Nat)
    (hg : Four w g (.complex .f64 a0 b0) (.complex .f64 a1 b1) (.complex .f64 a2 b2) (.complex .f64 a3 b3)) (hh : Four w h (.complex .f64 c0 d0) (.complex .f64 c1 d1) (.complex .f64 c2 d2) (.complex .f64 c3 d3))
    (e0 : SameC a0 b0 c0 d0) (e1 : SameC a1 b1 c1 d1) (e2 : SameC a2 b2 c2 d2) (e3 : SameC a3 b3 c3 d3) :
    Calls Tryz.prog 10 #[.slice (some ⟨g, 0, none⟩) 4 4, .slice (some ⟨h, 0, none⟩) 4 4] w fun e w' => e = .returned (.bool true) ∧ ∃ n, w' = w.drewN n := by
  obtain ⟨g0, g1, g2, g3, g4⟩ := hg
  obtain ⟨h0, h1, h2, h3, h4⟩ := hh
  have f0 := fun (w : World) => show (binOp .neq 34 (.complex .f64 a0 b0) (.complex .f64 c0 d0)).run Tryz.prog w = .ok (.bool false) w by rw [run_neq_complex, e0]
  have f1 := fun (w : World) => show (binOp .neq 34 (.complex .f64 a1 b1) (.complex .f64 c1 d1)).run Tryz.prog w = .ok (.bool false) w by rw [run_neq_complex, e1]
  have f2 := fun (w : World) => show (binOp .neq 34 (.complex .f64 a2 b2) (.complex .f64 c2 d2)).run Tryz.prog w = .ok (.bool false) w by rw [run_neq_complex, e2]
  have f3 := fun (w : World) => show (binOp .neq 34 (.complex .f64 a3 b3) (.complex .f64 c3 d3)).run Tryz.prog w = .ok (.bool false) w by rw [run_neq_complex, e3]
  clear e0 e1 e2 e3
  go_enter Tryz.func10, Tryz.ntmps10
  go_wp2_with fail
  refine wp_loop_rounds 6 ?_
  repeat any_goals (first | (rw [rounds_succ]; go_wp2_with fail) | (go_quiet (fail); go_wp2_with fail))
  go_ret
  exact ⟨rfl, _, rfl⟩
set_option maxHeartbeats 1000000 in
theorem four (w : World) :
    Calls Tryz.prog 8 #[] w fun e w' => e = .returned (.slice (some ⟨w.heap.size, 0, none⟩) 4 4) ∧ w' = w.alloc (.cells #[.complex .f64 4607182418800017408 0, .complex .f64 4611686018427387904 0, .complex .f64 4613937818241073152 0, .complex .f64 4616189618054758400 0] 34 (0, 0)) := by
  go_enter Tryz.func8, Tryz.ntmps8
  go_wp2_with fail
  go_ret
  exact ⟨rfl, rfl⟩
set_option maxHeartbeats 1000000 in
theorem forward (b : Nat) (w : World) (hb : Four w b (.complex .f64 4607182418800017408 0) (.complex .f64 4611686018427387904 0) (.complex .f64 4613937818241073152 0) (.complex .f64 4616189618054758400 0)) :
    Calls Tryz.prog 7 #[.slice (some ⟨b, 0, none⟩) 4 4] w fun e w' => e = .returned (.tuple #[.slice (some ⟨w.heap.size, 0, none⟩) 4 4, .int .i64 0]) ∧ Four w' w.heap.size (.complex .f64 4621819117588971520 0) (.complex .f64 13835058055282163712 4611686018427387904) (.complex .f64 13835058055282163712 0) (.complex .f64 13835058055282163712 13835058055282163712) ∧ Below w.heap.size w w' := by
  obtain ⟨h0, h1, h2, h3, h4⟩ := hb
  have hs := fun w => steps1 b w
  go_enter Tryz.func7, Tryz.ntmps7
  go_wp2_with (first | (go_at_call 12; (with_reducible refine (power4 _).mono ?_); rintro e w' ⟨rfl, rfl⟩) | (go_at_call 13; (with_reducible refine (steps1 b _ h0 h1 h2 h3 h4).mono ?_); rintro e w' ⟨rfl, hf, hm, hw⟩))
  go_ret2
  exact ⟨rfl, hf, hw⟩
set_option maxHeartbeats 400000 in
theorem cscale (x a b c d : Nat) (w : World) (h : floatBits .mul .f64 x a = some c) (h' : floatBits .mul .f64 x b = some d) :
    Calls Tryz.prog 16 #[.float .f64 x, .complex .f64 a b] w fun e w' => e = .returned (.complex .f64 c d) ∧ w = w' := by
  have a1 := fun (w : World) => run_float_arith (P := Tryz.prog) w .mul 42 .f64 x a c h
  have a2 := fun (w : World) => run_float_arith (P := Tryz.prog) w .mul 42 .f64 x b d h'
  clear h h'
  go_enter Tryz.func16, Tryz.ntmps16
  go_wp2
  go_ret
  exact ⟨rfl, rfl⟩
set_option maxRecDepth 100000 in
set_option maxHeartbeats 2000000 in
theorem inverse (b : Nat) (w : World) (hb : Four w b (.complex .f64 4621819117588971520 0) (.complex .f64 13835058055282163712 4611686018427387904) (.complex .f64 13835058055282163712 0) (.complex .f64 13835058055282163712 13835058055282163712)) :
    Calls Tryz.prog 9 #[.slice (some ⟨b, 0, none⟩) 4 4] w fun e w' => e = .returned (.tuple #[.slice (some ⟨w.heap.size, 0, none⟩) 4 4, .int .i64 0]) ∧ Four w' w.heap.size (.complex .f64 4607182418800017408 0) (.complex .f64 4611686018427387904 0) (.complex .f64 4613937818241073152 0) (.complex .f64 4616189618054758400 0) ∧ Below w.heap.size w w' := by
  obtain ⟨h0, h1, h2, h3, h4⟩ := hb
  have c4 : floatOfInt .f64 4 = 4616189618054758400 := by decide +kernel
  have q4 := fun (w : World) => run_float_arith (P := Tryz.prog) w .quo 42 .f64 4607182418800017408 4616189618054758400 4598175219545276416 (by decide +kernel)
  go_enter Tryz.func9, Tryz.ntmps9
  go_wp2_with (first | (go_at_call 12; (with_reducible refine (power4 _).mono ?_); rintro e w' ⟨rfl, rfl⟩) | (go_at_call 13; (with_reducible refine (steps2 b _ h0 h1 h2 h3 h4).mono ?_); rintro e w1 ⟨rfl, ⟨k0, k1, k2, k3, k4⟩, ⟨m1, m2, m3, m4⟩, hw⟩))
  clear h0 h1 h2 h3 h4
  refine wp_loop_rounds 6 ?_
  repeat any_goals (rw [rounds_succ]; go_wp2_with (first | (go_at_call 16; (with_reducible refine (cscale 4598175219545276416 4616189618054758400 0 4607182418800017408 0 _ (by decide +kernel) (by decide +kernel)).mono ?_); rintro e w' ⟨rfl, rfl⟩) | (go_at_call 16; (with_reducible refine (cscale 4598175219545276416 4620693217682128896 0 4611686018427387904 0 _ (by decide +kernel) (by decide +kernel)).mono ?_); rintro e w' ⟨rfl, rfl⟩) | (go_at_call 16; (with_reducible refine (cscale 4598175219545276416 4622945017495814144 0 4613937818241073152 0 _ (by decide +kernel) (by decide +kernel)).mono ?_); rintro e w' ⟨rfl, rfl⟩) | (go_at_call 16; (with_reducible refine (cscale 4598175219545276416 4625196817309499392 0 4616189618054758400 0 _ (by decide +kernel) (by decide +kernel)).mono ?_); rintro e w' ⟨rfl, rfl⟩)))
  go_ret2
  refine ⟨rfl, ⟨?_, ?_, ?_, ?_, ?_⟩, ?_⟩
  · simp [go_sem, k0]
  · go_cell
  · go_cell
  · go_cell
  · go_cell
  · repeat' (first | (with_reducible assumption) | (with_reducible exact Below.refl _ _) | (with_reducible refine Below.setCell ?_ ?_ _) | go_size)
end Go.Proofs.YtmkcnpimlgjbhabGreatFmt
