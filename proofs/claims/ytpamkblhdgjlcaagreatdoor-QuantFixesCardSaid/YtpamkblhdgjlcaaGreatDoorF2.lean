/- Walks of Fix's other ways, of Back, and of the small functions of package math that the law of layer 25 calls; each at the values that it calls them with. -/
import Derived.Test.YtpamkblhdgjlcaaGreatDoorProg
import Derived.Test.YtpamkblhdgjlcaaGreatDoorBase
import Derived.Test.YtpamkblhdgjlcaaGreatDoorQ1
import Derived.Test.YtpamkblhdgjlcaaGreatDoorF1
import Derived.WalkKit
import Derived.WalkSpells
import Derived.WalkLawsBesides
import Derived.Handy
import Derived.Deep.QuietTactic
import Derived.BigQuiet
import Derived.Laws.Externs
import Derived.Laws.FloatArith
set_option linter.unusedSimpArgs false
set_option linter.unusedVariables false
namespace Go.Proofs.YtpamkblhdgjlcaaGreatDoor
open Go.RowKit

set_option maxHeartbeats 1000000 in
theorem fix_high (x : Nat) (k : Int) (w : World) (h1 : 1 ≤ k) (h2 : k ≤ 31) (hf : floatBits .sub .f64 x x = some 0)
    (hA : (FloatKind.f64.format.order x 4751297606875873280 == some .gt || FloatKind.f64.format.order x 4751297606875873280 == some .eq) = true) :
    Calls Tryz.prog 6 #[.float .f64 x, .int .i64 k] w fun e w' => e = .returned (.tuple #[.int .i64 2147483647, .bool true, .int .i64 0]) ∧ w = w' := by
  have HR := Lib.hid (fun w => right_yes k h1 h2 w)
  have HF := Lib.hid (fun w => finite_yes x hf w)
  clear h1 h2 hf
  go_enter Tryz.func6, Tryz.ntmps6
  go_wp2_with (first | (go_at_call 12; refine (HR.out _).mono ?_; rintro e w' ⟨rfl, rfl⟩) | (go_at_call 13; refine (HF.out _).mono ?_; rintro e w' ⟨rfl, rfl⟩))
  go_ret3
  exact ⟨rfl, rfl⟩
set_option maxHeartbeats 1000000 in
theorem fix_low (x : Nat) (k : Int) (w : World) (h1 : 1 ≤ k) (h2 : k ≤ 31) (hf : floatBits .sub .f64 x x = some 0)
    (hA : (FloatKind.f64.format.order x 4751297606875873280 == some .gt || FloatKind.f64.format.order x 4751297606875873280 == some .eq) = false)
    (hB : (FloatKind.f64.format.order x 13974669643730649088 == some .lt || FloatKind.f64.format.order x 13974669643730649088 == some .eq) = true) :
    Calls Tryz.prog 6 #[.float .f64 x, .int .i64 k] w fun e w' => e = .returned (.tuple #[.int .i64 (-2147483648), .bool true, .int .i64 0]) ∧ w = w' := by
  have HR := Lib.hid (fun w => right_yes k h1 h2 w)
  have HF := Lib.hid (fun w => finite_yes x hf w)
  clear h1 h2 hf
  go_enter Tryz.func6, Tryz.ntmps6
  go_wp2_with (first | (go_at_call 12; refine (HR.out _).mono ?_; rintro e w' ⟨rfl, rfl⟩) | (go_at_call 13; refine (HF.out _).mono ?_; rintro e w' ⟨rfl, rfl⟩))
  go_ret3
  exact ⟨rfl, rfl⟩
set_option maxHeartbeats 1000000 in
theorem fix_nan (x : Nat) (k : Int) (w : World) (h1 : 1 ≤ k) (h2 : k ≤ 31) (hf : floatBits .sub .f64 x x = none) :
    Calls Tryz.prog 6 #[.float .f64 x, .int .i64 k] w fun e w' => e = .returned (.tuple #[.int .i64 0, .bool false, .int .i64 5]) ∧ ∃ n, w' = w.drewN n := by
  have HR := Lib.hid (fun w => right_yes k h1 h2 w)
  have HF := Lib.hid (fun w => finite_no x hf w)
  clear h1 h2 hf
  go_enter Tryz.func6, Tryz.ntmps6
  go_wp2_with (first | (go_at_call 12; refine (HR.out _).mono ?_; rintro e w' ⟨rfl, rfl⟩) | (go_at_call 13; refine (HF.out _).mono ?_; rintro e w' ⟨rfl, n, rfl⟩))
  go_ret3
  exact ⟨rfl, _, rfl⟩
set_option maxHeartbeats 1000000 in
theorem fix_arg (x : Nat) (k : Int) (w : World) (h : k < 1 ∨ 31 < k) :
    Calls Tryz.prog 6 #[.float .f64 x, .int .i64 k] w fun e w' => e = .returned (.tuple #[.int .i64 0, .bool false, .int .i64 1]) ∧ w = w' := by
  have HR := Lib.hid (fun w => right_no k h w)
  clear h
  go_enter Tryz.func6, Tryz.ntmps6
  go_wp2_with (go_at_call 12; refine (HR.out _).mono ?_; rintro e w' ⟨rfl, rfl⟩)
  go_ret3
  exact ⟨rfl, rfl⟩
/-- Back at any number: the quotient of the two floats -/
theorem back_any (n : Int) (k r : Nat) (w : World) (h1 : 1 ≤ k) (h2 : k ≤ 31) (hr : floatBits .quo .f64 (floatOfInt .f64 n) (floatOfInt .f64 (2 ^ k)) = some r) :
    Calls Tryz.prog 8 #[.int .i64 n, .int .i64 k] w fun e w' => e = .returned (.tuple #[.float .f64 r, .int .i64 0]) ∧ w = w' := by
  have HR := Lib.hid (fun w => right_yes k (by omega) (by omega) w)
  have hw : wrap64 (2 ^ k) = 2 ^ k := by
    have h3 : ((2 ^ k : Nat) : Int) ≤ ((2 ^ 31 : Nat) : Int) := Int.ofNat_le.2 (Nat.pow_le_pow_right (by decide) h2)
    rw [Int.natCast_pow, Int.natCast_pow] at h3
    have h5 : ((2 : Nat) : Int) ^ k = 2 ^ k := rfl
    have h6 : ((2 : Nat) : Int) ^ 31 = 2147483648 := rfl
    rw [h5, h6] at h3
    have h4 : (0 : Int) < 2 ^ k := Int.pow_pos (by decide)
    unfold wrap64
    omega
  have hm : ∀ w, (binOp .quo 24 (.float .f64 (floatOfInt .f64 n)) (.float .f64 (floatOfInt .f64 (wrap64 (2 ^ k))))).run Tryz.prog w = .ok (.float .f64 r) w := fun w => by
    rw [hw]
    exact run_float_arith w .quo _ .f64 _ _ r hr
  clear hw hr
  go_enter Tryz.func8, Tryz.ntmps8
  go_wp2_with (go_at_call 12; refine (HR.out _).mono ?_; rintro e w' ⟨rfl, rfl⟩)
  go_ret2
  exact ⟨rfl, rfl⟩
theorem back_arg (n k : Int) (w : World) (h : k < 1 ∨ 31 < k) :
    Calls Tryz.prog 8 #[.int .i64 n, .int .i64 k] w fun e w' => e = .returned (.tuple #[.float .f64 0, .int .i64 1]) ∧ w = w' := by
  have HR := Lib.hid (fun w => right_no k h w)
  clear h
  go_enter Tryz.func8, Tryz.ntmps8
  go_wp2_with (go_at_call 12; refine (HR.out _).mono ?_; rintro e w' ⟨rfl, rfl⟩)
  go_ret2
  exact ⟨rfl, rfl⟩
end Go.Proofs.YtpamkblhdgjlcaaGreatDoor
