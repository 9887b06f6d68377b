/- Walks of Fix's other ways, of Back, and of the small functions of package math that the law of layer 25 calls; each at the values that it calls them with. -/
import Derived.Test.YtmkcnpimlgjbhaaGreatDoorProg
import Derived.Test.YtmkcnpimlgjbhaaGreatDoorBase
import Derived.Test.YtmkcnpimlgjbhaaGreatDoorQ1
import Derived.Test.YtmkcnpimlgjbhaaGreatDoorF1
import Derived.WalkKit
import Derived.WalkSpells
import Derived.WalkLawsBesides
import Derived.Handy
import Derived.Deep.QuietTactic
import Derived.BigQuiet
import Derived.Laws.Externs
import Derived.Laws.FloatArith
set_option linter.unusedSimpArgs false
set_option linter.unusedVariables false
namespace Go.Proofs.YtmkcnpimlgjbhaaGreatDoor
open Go.RowKit

set_option maxHeartbeats 1000000 in
theorem fix_high (x : Nat) (k : Int) (w : World) (h1 : 1 ≤ k) (h2 : k ≤ 31) (hf : floatBits .sub .f64 x x = some 0)
    (hA : (FloatKind.f64.format.order x 4751297606875873280 == some .gt || FloatKind.f64.format.order x 4751297606875873280 == some .eq) = true) :
    Calls Tryz.prog 5 #[.float .f64 x, .int .i64 k] w fun e w' => e = .returned (.tuple #[.int .i64 2147483647, .bool true, .int .i64 0]) ∧ w = w' := by
  have HR := Lib.hid (fun w => right_yes k h1 h2 w)
  have HF := Lib.hid (fun w => finite_yes x hf w)
  clear h1 h2 hf
  go_enter Tryz.func5, Tryz.ntmps5
  go_wp2_with (first | (go_at_call 13; refine (HR.out _).mono ?_; rintro e w' ⟨rfl, rfl⟩) | (go_at_call 14; refine (HF.out _).mono ?_; rintro e w' ⟨rfl, rfl⟩))
  go_ret3
  exact ⟨rfl, rfl⟩
set_option maxHeartbeats 1000000 in
theorem fix_low (x : Nat) (k : Int) (w : World) (h1 : 1 ≤ k) (h2 : k ≤ 31) (hf : floatBits .sub .f64 x x = some 0)
    (hA : (FloatKind.f64.format.order x 4751297606875873280 == some .gt || FloatKind.f64.format.order x 4751297606875873280 == some .eq) = false)
    (hB : (FloatKind.f64.format.order x 13974669643730649088 == some .lt || FloatKind.f64.format.order x 13974669643730649088 == some .eq) = true) :
    Calls Tryz.prog 5 #[.float .f64 x, .int .i64 k] w fun e w' => e = .returned (.tuple #[.int .i64 (-2147483648), .bool true, .int .i64 0]) ∧ w = w' := by
  have HR := Lib.hid (fun w => right_yes k h1 h2 w)
  have HF := Lib.hid (fun w => finite_yes x hf w)
  clear h1 h2 hf
  go_enter Tryz.func5, Tryz.ntmps5
  go_wp2_with (first | (go_at_call 13; refine (HR.out _).mono ?_; rintro e w' ⟨rfl, rfl⟩) | (go_at_call 14; refine (HF.out _).mono ?_; rintro e w' ⟨rfl, rfl⟩))
  go_ret3
  exact ⟨rfl, rfl⟩
set_option maxHeartbeats 1000000 in
theorem fix_nan (x : Nat) (k : Int) (w : World) (h1 : 1 ≤ k) (h2 : k ≤ 31) (hf : floatBits .sub .f64 x x = none) :
    Calls Tryz.prog 5 #[.float .f64 x, .int .i64 k] w fun e w' => e = .returned (.tuple #[.int .i64 0, .bool false, .int .i64 5]) ∧ ∃ n, w' = w.drewN n := by
  have HR := Lib.hid (fun w => right_yes k h1 h2 w)
  have HF := Lib.hid (fun w => finite_no x hf w)
  clear h1 h2 hf
  go_enter Tryz.func5, Tryz.ntmps5
  go_wp2_with (first | (go_at_call 13; refine (HR.out _).mono ?_; rintro e w' ⟨rfl, rfl⟩) | (go_at_call 14; refine (HF.out _).mono ?_; rintro e w' ⟨rfl, n, rfl⟩))
  go_ret3
  exact ⟨rfl, _, rfl⟩
set_option maxHeartbeats 1000000 in
theorem fix_arg (x : Nat) (k : Int) (w : World) (h : k < 1 ∨ 31 < k) :
    Calls Tryz.prog 5 #[.float .f64 x, .int .i64 k] w fun e w' => e = .returned (.tuple #[.int .i64 0, .bool false, .int .i64 1]) ∧ w = w' := by
  have HR := Lib.hid (fun w => right_no k h w)
  clear h
  go_enter Tryz.func5, Tryz.ntmps5
  go_wp2_with (go_at_call 13; refine (HR.out _).mono ?_; rintro e w' ⟨rfl, rfl⟩)
  go_ret3
  exact ⟨rfl, rfl⟩
/-- Back at any number: the quotient of the two floats -/
theorem back_any (n : Int) (k r : Nat) (w : World) (h1 : 1 ≤ k) (h2 : k ≤ 31) (hr : floatBits .quo .f64 (floatOfInt .f64 n) (floatOfInt .f64 (2 ^ k)) = some r) :
    Calls Tryz.prog 7 #[.int .i64 n, .int .i64 k] w fun e w' => e = .returned (.tuple #[.float .f64 r, .int .i64 0]) ∧ w = w' := by
  have HR := Lib.hid (fun w => right_yes k (by omega) (by omega) w)
  have hw : wrap64 (2 ^ k) = 2 ^ k := by
    have h3 : ((2 ^ k : Nat) : Int) ≤ ((2 ^ 31 : Nat) : Int) := Int.ofNat_le.2 (Nat.pow_le_pow_right (by decide) h2)
    rw [Int.natCast_pow, Int.natCast_pow] at h3
    have h5 : ((2 : Nat) : Int) ^ k = 2 ^ k := rfl
    have h6 : ((2 : Nat) : Int) ^ 31 = 2147483648 := rfl
    rw [h5, h6] at h3
    have h4 : (0 : Int) < 2 ^ k := Int.pow_pos (by decide)
    unfold wrap64
    omega
  have hm : ∀ w, (binOp .quo 23 (.float .f64 (floatOfInt .f64 n)) (.float .f64 (floatOfInt .f64 (wrap64 (2 ^ k))))).run Tryz.prog w = .ok (.float .f64 r) w := fun w => by
    rw [hw]
    exact run_float_arith w .quo _ .f64 _ _ r hr
  clear hw hr
  go_enter Tryz.func7, Tryz.ntmps7
  go_wp2_with (go_at_call 13; refine (HR.out _).mono ?_; rintro e w' ⟨rfl, rfl⟩)
  go_ret2
  exact ⟨rfl, rfl⟩
theorem back_arg (n k : Int) (w : World) (h : k < 1 ∨ 31 < k) :
    Calls Tryz.prog 7 #[.int .i64 n, .int .i64 k] w fun e w' => e = .returned (.tuple #[.float .f64 0, .int .i64 1]) ∧ w = w' := by
  have HR := Lib.hid (fun w => right_no k h w)
  clear h
  go_enter Tryz.func7, Tryz.ntmps7
  go_wp2_with (go_at_call 13; refine (HR.out _).mono ?_; rintro e w' ⟨rfl, rfl⟩)
  go_ret2
  exact ⟨rfl, rfl⟩
theorem nan_ (w : World) : Calls Tryz.prog 6 #[] w fun e w' => e = .returned (.float .f64 9221120237041090561) ∧ w = w' := by
  have hb : ∀ w, (callFunc 17 #[.int .u64 9221120237041090561]).run Tryz.prog w = .ok (.value (.float .f64 9221120237041090561)) w := fun _ => by kernel_rfl
  go_enter Tryz.func6, Tryz.ntmps6
  go_wp2_with fail
  go_ret
  exact ⟨rfl, rfl⟩
/-- Copysign(0, -1) -/
theorem copysign_ (w : World) : Calls Tryz.prog 10 #[.float .f64 0, .float .f64 13830554455654793216] w fun e w' => e = .returned (.float .f64 9223372036854775808) ∧ w = w' := by
  have h1 : ∀ w, (callFunc 20 #[.float .f64 0]).run Tryz.prog w = .ok (.value (.int .u64 0)) w := fun _ => by kernel_rfl
  have h2 : ∀ w, (callFunc 20 #[.float .f64 13830554455654793216]).run Tryz.prog w = .ok (.value (.int .u64 13830554455654793216)) w := fun _ => by kernel_rfl
  have h3 : ∀ w, (callFunc 17 #[.int .u64 9223372036854775808]).run Tryz.prog w = .ok (.value (.float .f64 9223372036854775808)) w := fun _ => by kernel_rfl
  have b1 : bits .andNot .u64 0 9223372036854775808 = 0 := by decide +kernel
  have b2 : bits .and .u64 13830554455654793216 9223372036854775808 = 9223372036854775808 := by decide +kernel
  have b3 : bits .or .u64 0 9223372036854775808 = 9223372036854775808 := by decide +kernel
  go_enter Tryz.func10, Tryz.ntmps10
  go_wp2_with fail
  go_ret
  exact ⟨rfl, rfl⟩
theorem abs1 (w : World) : Calls Tryz.prog 46 #[.float .f64 4607182418800017408] w fun e w' => e = .returned (.float .f64 4607182418800017408) ∧ w = w' := by
  have h1 : ∀ w, (callFunc 20 #[.float .f64 4607182418800017408]).run Tryz.prog w = .ok (.value (.int .u64 4607182418800017408)) w := fun _ => by kernel_rfl
  have h3 : ∀ w, (callFunc 17 #[.int .u64 4607182418800017408]).run Tryz.prog w = .ok (.value (.float .f64 4607182418800017408)) w := fun _ => by kernel_rfl
  have b1 : bits .andNot .u64 4607182418800017408 9223372036854775808 = 4607182418800017408 := by decide +kernel
  go_enter Tryz.func46, Tryz.ntmps46
  go_wp2_with fail
  go_ret
  exact ⟨rfl, rfl⟩
theorem isInf1 (w : World) : Calls Tryz.prog 27 #[.float .f64 4607182418800017408, .int .i64 0] w fun e w' => e = .returned (.bool false) ∧ w = w' := by
  have ho : (FloatKind.f64.format.order 4607182418800017408 9218868437227405311 == some .gt) = false := by decide +kernel
  go_enter Tryz.func27, Tryz.ntmps27
  go_wp2_with (go_at_call 46; refine (abs1 _).mono ?_; rintro e w' ⟨rfl, rfl⟩)
  go_ret
  exact ⟨rfl, rfl⟩
theorem isNaN1 (w : World) : Calls Tryz.prog 28 #[.float .f64 4607182418800017408] w fun e w' => e = .returned (.bool false) ∧ w = w' := by
  have ho : (FloatKind.f64.format.order 4607182418800017408 4607182418800017408 != some .eq) = false := by decide +kernel
  go_enter Tryz.func28, Tryz.ntmps28
  go_wp2_with fail
  go_ret
  exact ⟨rfl, rfl⟩
theorem normalize1 (w : World) : Calls Tryz.prog 29 #[.float .f64 4607182418800017408] w fun e w' => e = .returned (.tuple #[.float .f64 4607182418800017408, .int .i64 0]) ∧ w = w' := by
  have ho : (FloatKind.f64.format.order 4607182418800017408 4503599627370496 == some .lt) = false := by decide +kernel
  go_enter Tryz.func29, Tryz.ntmps29
  go_wp2_with (go_at_call 46; refine (abs1 _).mono ?_; rintro e w' ⟨rfl, rfl⟩)
  go_ret2
  exact ⟨rfl, rfl⟩
set_option maxHeartbeats 1000000 in
theorem ldexp62 (w : World) : Calls Tryz.prog 19 #[.float .f64 4607182418800017408, .int .i64 62] w fun e w' => e = .returned (.float .f64 4886405595696988160) ∧ w = w' := by
  have o1 : (FloatKind.f64.format.order 4607182418800017408 0 == some .eq) = false := by decide +kernel
  have h1 : ∀ w, (callFunc 20 #[.float .f64 4607182418800017408]).run Tryz.prog w = .ok (.value (.int .u64 4607182418800017408)) w := fun _ => by kernel_rfl
  have h3 : ∀ w, (callFunc 17 #[.int .u64 4886405595696988160]).run Tryz.prog w = .ok (.value (.float .f64 4886405595696988160)) w := fun _ => by kernel_rfl
  have b1 : bits .and .i64 1023 2047 = 1023 := by decide +kernel
  have b2 : bits .andNot .u64 4607182418800017408 9218868437227405312 = 0 := by decide +kernel
  have b3 : bits .or .u64 0 4886405595696988160 = 4886405595696988160 := by decide +kernel
  have m1 := fun w => run_float_arith (P := Tryz.prog) w .mul 23 .f64 4607182418800017408 4886405595696988160 4886405595696988160 (by decide +kernel)
  go_enter Tryz.func19, Tryz.ntmps19
  go_wp2_with (first | (go_at_call 27; refine (isInf1 _).mono ?_; rintro e w' ⟨rfl, rfl⟩) | (go_at_call 28; refine (isNaN1 _).mono ?_; rintro e w' ⟨rfl, rfl⟩) | (go_at_call 29; refine (normalize1 _).mono ?_; rintro e w' ⟨rfl, rfl⟩))
  go_ret
  exact ⟨rfl, rfl⟩
set_option maxHeartbeats 1000000 in
theorem ldexp31 (w : World) : Calls Tryz.prog 19 #[.float .f64 4607182418800017408, .int .i64 (-31)] w fun e w' => e = .returned (.float .f64 4467570830351532032) ∧ w = w' := by
  have o1 : (FloatKind.f64.format.order 4607182418800017408 0 == some .eq) = false := by decide +kernel
  have h1 : ∀ w, (callFunc 20 #[.float .f64 4607182418800017408]).run Tryz.prog w = .ok (.value (.int .u64 4607182418800017408)) w := fun _ => by kernel_rfl
  have h3 : ∀ w, (callFunc 17 #[.int .u64 4467570830351532032]).run Tryz.prog w = .ok (.value (.float .f64 4467570830351532032)) w := fun _ => by kernel_rfl
  have b1 : bits .and .i64 1023 2047 = 1023 := by decide +kernel
  have b2 : bits .andNot .u64 4607182418800017408 9218868437227405312 = 0 := by decide +kernel
  have b3 : bits .or .u64 0 4467570830351532032 = 4467570830351532032 := by decide +kernel
  have m1 := fun w => run_float_arith (P := Tryz.prog) w .mul 23 .f64 4607182418800017408 4467570830351532032 4467570830351532032 (by decide +kernel)
  go_enter Tryz.func19, Tryz.ntmps19
  go_wp2_with (first | (go_at_call 27; refine (isInf1 _).mono ?_; rintro e w' ⟨rfl, rfl⟩) | (go_at_call 28; refine (isNaN1 _).mono ?_; rintro e w' ⟨rfl, rfl⟩) | (go_at_call 29; refine (normalize1 _).mono ?_; rintro e w' ⟨rfl, rfl⟩))
  go_ret
  exact ⟨rfl, rfl⟩
theorem Ldexp62 (w : World) : Calls Tryz.prog 8 #[.float .f64 4607182418800017408, .int .i64 62] w fun e w' => e = .returned (.float .f64 4886405595696988160) ∧ w = w' := by
  go_enter Tryz.func8, Tryz.ntmps8
  go_wp2_with (go_at_call 19; refine (ldexp62 _).mono ?_; rintro e w' ⟨rfl, rfl⟩)
  go_ret
  exact ⟨rfl, rfl⟩
theorem Ldexp31 (w : World) : Calls Tryz.prog 8 #[.float .f64 4607182418800017408, .int .i64 (-31)] w fun e w' => e = .returned (.float .f64 4467570830351532032) ∧ w = w' := by
  go_enter Tryz.func8, Tryz.ntmps8
  go_wp2_with (go_at_call 19; refine (ldexp31 _).mono ?_; rintro e w' ⟨rfl, rfl⟩)
  go_ret
  exact ⟨rfl, rfl⟩
end Go.Proofs.YtmkcnpimlgjbhaaGreatDoor
