/- Section at the four inputs that the law of layer 25 calls it with. -/
import Derived.Test.YtmkcnpimlgjbhaaGreatDoorProg
import Derived.Test.YtmkcnpimlgjbhaaGreatDoorBase
import Derived.Test.YtmkcnpimlgjbhaaGreatDoorQ1
import Derived.Test.YtmkcnpimlgjbhaaGreatDoorF1
import Derived.Test.YtmkcnpimlgjbhaaGreatDoorF2
import Derived.Test.YtmkcnpimlgjbhaaGreatDoorF3
import Derived.Test.YtmkcnpimlgjbhaaGreatDoorQ4
import Derived.WalkKit
import Derived.WalkSpells
import Derived.WalkLawsBesides
import Derived.Handy
import Derived.Deep.QuietTactic
import Derived.BigQuiet
set_option linter.unusedSimpArgs false
set_option linter.unusedVariables false
namespace Go.Proofs.YtmkcnpimlgjbhaaGreatDoor
open Go.RowKit

@[go_sem] theorem run_store_complex' {P : Program} {a : Addr} {m : Mode} (w : World) (k : FloatKind) (x y : Nat) : (store a (.complex k x y) m).run P w = stored P w a (.complex k x y) m := run_store P w a _ m rfl
@[go_sem] theorem run_store_float' {P : Program} {a : Addr} {m : Mode} (w : World) (k : FloatKind) (x : Nat) : (store a (.float k x) m).run P w = stored P w a (.float k x) m := run_store P w a _ m rfl
def secV (r0 i0 r1 i1 r2 i2 r3 i3 r4 i4 : Nat) : Value := .agg #[.complex .f64 r0 i0, .complex .f64 r1 i1, .complex .f64 r2 i2, .complex .f64 r3 i3, .complex .f64 r4 i4]
theorem index_five (x0 x1 x2 x3 x4 : Value) (w : World) :
    (Instr.index 54 (.agg #[x0, x1, x2, x3, x4]) (.int .i64 0)).run Tryz.prog w = .ok x0 w ∧
    (Instr.index 54 (.agg #[x0, x1, x2, x3, x4]) (.int .i64 1)).run Tryz.prog w = .ok x1 w ∧
    (Instr.index 54 (.agg #[x0, x1, x2, x3, x4]) (.int .i64 2)).run Tryz.prog w = .ok x2 w ∧
    (Instr.index 54 (.agg #[x0, x1, x2, x3, x4]) (.int .i64 3)).run Tryz.prog w = .ok x3 w ∧
    (Instr.index 54 (.agg #[x0, x1, x2, x3, x4]) (.int .i64 4)).run Tryz.prog w = .ok x4 w := ⟨by kernel_rfl, by kernel_rfl, by kernel_rfl, by kernel_rfl, by kernel_rfl⟩
set_option maxHeartbeats 1000000 in
theorem sec_arg (w : World) : Calls Tryz.prog 9 #[secV 0 4607182418800017408 0 0 0 0 0 0 0 0, .int .i64 0] w fun e w' =>
    e = .returned (.tuple #[fixedV 0 0 0 0 0 0, .int .i64 0, .int .i64 1]) ∧ Only [] w w' := by
  unfold secV fixedV
  go_enter Tryz.func9, Tryz.ntmps9
  go_wp2_with (go_at_call 13; refine (right_no 0 (by decide) _).mono ?_; rintro e w' ⟨rfl, rfl⟩)
  refine bodyPost_ret (v := .tuple #[.agg #[.int .i64 0, .int .i64 0, .int .i64 0, .int .i64 0, .int .i64 0, .int .i64 0], .int .i64 0, .int .i64 1]) (by simp [results, Tryz.results9, go_sem]) rfl ⟨rfl, ?_⟩
  exact ((Only.refl [] w).alloc _).alloc _
set_option maxHeartbeats 4000000 in
theorem sec_pair (w : World) : Calls Tryz.prog 9 #[secV 0 4607182418800017408 0 0 0 0 0 0 0 0, .int .i64 31] w fun e w' =>
    e = .returned (.tuple #[fixedV 0 0 0 0 0 0, .int .i64 0, .int .i64 8]) ∧ Only [] w w' := by
  have F0 := Lib.hid (fun w => finite_yes 0 (by decide +kernel) w)
  have F1 := Lib.hid (fun w => finite_yes 4607182418800017408 (by decide +kernel) w)
  have hi := fun x0 x1 x2 x3 x4 w => (index_five x0 x1 x2 x3 x4 w).1
  have hi1 := fun x0 x1 x2 x3 x4 w => (index_five x0 x1 x2 x3 x4 w).2.1
  have hi2 := fun x0 x1 x2 x3 x4 w => (index_five x0 x1 x2 x3 x4 w).2.2.1
  have hi3 := fun x0 x1 x2 x3 x4 w => (index_five x0 x1 x2 x3 x4 w).2.2.2.1
  have hi4 := fun x0 x1 x2 x3 x4 w => (index_five x0 x1 x2 x3 x4 w).2.2.2.2
  have o0 : (FloatKind.f64.format.order 0 0 != some .eq) = false := by decide +kernel
  have o1 : (FloatKind.f64.format.order 4607182418800017408 0 != some .eq) = true := by decide +kernel
  unfold secV fixedV
  go_enter Tryz.func9, Tryz.ntmps9
  go_wp2_with (go_at_call 13; refine (right_yes 31 (by decide) (by decide) _).mono ?_; rintro e w' ⟨rfl, rfl⟩)
  refine wp_loop_rounds 6 ?_
  repeat any_goals (rw [rounds_succ]; go_wp2_with (first | (go_at_call 14; ((with_reducible refine (F0.out _).mono ?_); rintro e w' ⟨rfl, rfl⟩)) | (go_at_call 14; ((with_reducible refine (F1.out _).mono ?_); rintro e w' ⟨rfl, rfl⟩))))
  refine bodyPost_ret (v := .tuple #[.agg #[.int .i64 0, .int .i64 0, .int .i64 0, .int .i64 0, .int .i64 0, .int .i64 0], .int .i64 0, .int .i64 8]) (by simp [results, Tryz.results9, go_sem]) rfl ⟨rfl, ?_⟩
  exact (((Only.refl [] w).alloc _).alloc _).alloc _
set_option maxHeartbeats 4000000 in
theorem sec_nan (w : World) : Calls Tryz.prog 9 #[secV 0 4607182418800017408 0 0 0 0 0 9221120237041090561 0 0, .int .i64 31] w fun e w' =>
    e = .returned (.tuple #[fixedV 0 0 0 0 0 0, .int .i64 0, .int .i64 5]) ∧ Only [] w w' := by
  have F0 := Lib.hid (fun w => finite_yes 0 (by decide +kernel) w)
  have F1 := Lib.hid (fun w => finite_yes 4607182418800017408 (by decide +kernel) w)
  have FN := Lib.hid (fun w => finite_no 9221120237041090561 (by decide +kernel) w)
  have o2 : (FloatKind.f64.format.order 9221120237041090561 0 != some .eq) = true := by decide +kernel
  have hi := fun x0 x1 x2 x3 x4 w => (index_five x0 x1 x2 x3 x4 w).1
  have hi1 := fun x0 x1 x2 x3 x4 w => (index_five x0 x1 x2 x3 x4 w).2.1
  have hi2 := fun x0 x1 x2 x3 x4 w => (index_five x0 x1 x2 x3 x4 w).2.2.1
  have hi3 := fun x0 x1 x2 x3 x4 w => (index_five x0 x1 x2 x3 x4 w).2.2.2.1
  have hi4 := fun x0 x1 x2 x3 x4 w => (index_five x0 x1 x2 x3 x4 w).2.2.2.2
  have o0 : (FloatKind.f64.format.order 0 0 != some .eq) = false := by decide +kernel
  have o1 : (FloatKind.f64.format.order 4607182418800017408 0 != some .eq) = true := by decide +kernel
  unfold secV fixedV
  go_enter Tryz.func9, Tryz.ntmps9
  go_wp2_with (go_at_call 13; refine (right_yes 31 (by decide) (by decide) _).mono ?_; rintro e w' ⟨rfl, rfl⟩)
  refine wp_loop_rounds 6 ?_
  repeat any_goals (rw [rounds_succ]; go_wp2_with (first | (go_at_call 14; ((with_reducible refine (F0.out _).mono ?_); rintro e w' ⟨rfl, rfl⟩)) | (go_at_call 14; ((with_reducible refine (F1.out _).mono ?_); rintro e w' ⟨rfl, rfl⟩)) | (go_at_call 14; ((with_reducible refine (FN.out _).mono ?_); rintro e w' ⟨rfl, nd, rfl⟩))))
  refine bodyPost_ret (v := .tuple #[.agg #[.int .i64 0, .int .i64 0, .int .i64 0, .int .i64 0, .int .i64 0, .int .i64 0], .int .i64 0, .int .i64 5]) (by simp [results, Tryz.results9, go_sem]) rfl ⟨rfl, ?_⟩
  exact ((((Only.refl [] w).alloc _).alloc _).alloc _).drewN _
set_option maxHeartbeats 4000000 in
theorem sec_ok (w : World) : Calls Tryz.prog 9 #[secV 4607182418800017408 9223372036854775808 0 0 0 0 4611686018427387904 0 0 0, .int .i64 31] w fun e w' =>
    e = .returned (.tuple #[fixedV 31 2147483647 0 0 2147483647 0, .int .i64 2, .int .i64 0]) ∧ Only [] w w' := by
  have F0 := Lib.hid (fun w => finite_yes 0 (by decide +kernel) w)
  have F1 := Lib.hid (fun w => finite_yes 4607182418800017408 (by decide +kernel) w)
  have F2 := Lib.hid (fun w => finite_yes 4611686018427387904 (by decide +kernel) w)
  have FM := Lib.hid (fun w => finite_yes 9223372036854775808 (by decide +kernel) w)
  have G0 := Lib.hid (fun w => fix_zero31 w)
  have G1 := Lib.hid (fun w => fix_one31 w)
  have G2 := Lib.hid (fun w => fix_two31 w)
  have o2 : (FloatKind.f64.format.order 9223372036854775808 0 != some .eq) = false := by decide +kernel
  have hi := fun x0 x1 x2 x3 x4 w => (index_five x0 x1 x2 x3 x4 w).1
  have hi1 := fun x0 x1 x2 x3 x4 w => (index_five x0 x1 x2 x3 x4 w).2.1
  have hi2 := fun x0 x1 x2 x3 x4 w => (index_five x0 x1 x2 x3 x4 w).2.2.1
  have hi3 := fun x0 x1 x2 x3 x4 w => (index_five x0 x1 x2 x3 x4 w).2.2.2.1
  have hi4 := fun x0 x1 x2 x3 x4 w => (index_five x0 x1 x2 x3 x4 w).2.2.2.2
  have o0 : (FloatKind.f64.format.order 0 0 != some .eq) = false := by decide +kernel
  have o1 : (FloatKind.f64.format.order 4607182418800017408 0 != some .eq) = true := by decide +kernel
  unfold secV fixedV
  go_enter Tryz.func9, Tryz.ntmps9
  go_wp2_with (go_at_call 13; refine (right_yes 31 (by decide) (by decide) _).mono ?_; rintro e w' ⟨rfl, rfl⟩)
  refine wp_loop_rounds 6 ?_
  repeat any_goals (rw [rounds_succ]; go_wp2_with (first | (go_at_call 14; ((with_reducible refine (F0.out _).mono ?_); rintro e w' ⟨rfl, rfl⟩)) | (go_at_call 14; ((with_reducible refine (F1.out _).mono ?_); rintro e w' ⟨rfl, rfl⟩)) | (go_at_call 14; ((with_reducible refine (F2.out _).mono ?_); rintro e w' ⟨rfl, rfl⟩)) | (go_at_call 14; ((with_reducible refine (FM.out _).mono ?_); rintro e w' ⟨rfl, rfl⟩)) | (go_at_call 5; ((with_reducible refine (G0.out _).mono ?_); rintro e w' ⟨rfl, rfl⟩)) | (go_at_call 5; ((with_reducible refine (G1.out _).mono ?_); rintro e w' ⟨rfl, rfl⟩)) | (go_at_call 5; ((with_reducible refine (G2.out _).mono ?_); rintro e w' ⟨rfl, rfl⟩))))
  refine wp_loop_rounds 6 ?_
  repeat any_goals (rw [rounds_succ]; go_wp2_with (first | (go_at_call 14; ((with_reducible refine (F0.out _).mono ?_); rintro e w' ⟨rfl, rfl⟩)) | (go_at_call 14; ((with_reducible refine (F1.out _).mono ?_); rintro e w' ⟨rfl, rfl⟩)) | (go_at_call 14; ((with_reducible refine (F2.out _).mono ?_); rintro e w' ⟨rfl, rfl⟩)) | (go_at_call 14; ((with_reducible refine (FM.out _).mono ?_); rintro e w' ⟨rfl, rfl⟩)) | (go_at_call 5; ((with_reducible refine (G0.out _).mono ?_); rintro e w' ⟨rfl, rfl⟩)) | (go_at_call 5; ((with_reducible refine (G1.out _).mono ?_); rintro e w' ⟨rfl, rfl⟩)) | (go_at_call 5; ((with_reducible refine (G2.out _).mono ?_); rintro e w' ⟨rfl, rfl⟩))))
  refine bodyPost_ret (v := .tuple #[.agg #[.int .i64 31, .int .i64 2147483647, .int .i64 0, .int .i64 0, .int .i64 2147483647, .int .i64 0], .int .i64 2, .int .i64 0]) (by simp [results, Tryz.results9, go_sem]) rfl ⟨rfl, ?_⟩
  exact ((((Only.refl [] w).alloc _).alloc _).alloc _).alloc _
end Go.Proofs.YtmkcnpimlgjbhaaGreatDoor
