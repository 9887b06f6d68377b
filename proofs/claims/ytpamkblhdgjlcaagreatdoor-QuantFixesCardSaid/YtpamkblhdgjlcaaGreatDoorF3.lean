/- Fix and Back at the values that the law of layer 25 calls them with. -/
import Derived.Test.YtpamkblhdgjlcaaGreatDoorProg
import Derived.Test.YtpamkblhdgjlcaaGreatDoorBase
import Derived.Test.YtpamkblhdgjlcaaGreatDoorQ1
import Derived.Test.YtpamkblhdgjlcaaGreatDoorF1
import Derived.Test.YtpamkblhdgjlcaaGreatDoorF2
set_option linter.unusedSimpArgs false
set_option linter.unusedVariables false
namespace Go.Proofs.YtpamkblhdgjlcaaGreatDoor
open Go.RowKit

theorem fixLit (x k p q : Nat) (n m : Int) (b : Bool) (w : World) (h1 : 1 ≤ k) (h2 : k ≤ 31) (hf : floatBits .sub .f64 x x = some 0)
    (hA : (FloatKind.f64.format.order x 4751297606875873280 == some .gt || FloatKind.f64.format.order x 4751297606875873280 == some .eq) = false)
    (hB : (FloatKind.f64.format.order x 13974669643730649088 == some .lt || FloatKind.f64.format.order x 13974669643730649088 == some .eq) = false)
    (hp : floatBits .mul .f64 x (floatOfInt .f64 (2 ^ k)) = some p) (hq : evenBits p = some q) (hn : floatToIntVal .f64 q .i64 = some n) (hm : keptI n = m) (hb : (m != n) = b) :
    Calls Tryz.prog 6 #[.float .f64 x, .int .i64 k] w fun e w' => e = .returned (.tuple #[.int .i64 m, .bool b, .int .i64 0]) ∧ w = w' := by
  subst hb; subst hm
  exact fix_mid x k p q n w h1 h2 hf hA hB hp hq hn
theorem fix_q1 (w : World) : Calls Tryz.prog 6 #[.float .f64 4598175219545276416, .int .i64 1] w fun e w' => e = .returned (.tuple #[.int .i64 0, .bool false, .int .i64 0]) ∧ w = w' :=
  fixLit 4598175219545276416 1 4602678819172646912 0 0 0 false w (by decide) (by decide) (by decide +kernel) (by decide +kernel) (by decide +kernel) (by decide +kernel) (by decide +kernel) (by decide +kernel) (by decide +kernel) (by decide +kernel)
theorem fix_q3 (w : World) : Calls Tryz.prog 6 #[.float .f64 4604930618986332160, .int .i64 1] w fun e w' => e = .returned (.tuple #[.int .i64 2, .bool false, .int .i64 0]) ∧ w = w' :=
  fixLit 4604930618986332160 1 4609434218613702656 4611686018427387904 2 2 false w (by decide) (by decide) (by decide +kernel) (by decide +kernel) (by decide +kernel) (by decide +kernel) (by decide +kernel) (by decide +kernel) (by decide +kernel) (by decide +kernel)
theorem fix_h (w : World) : Calls Tryz.prog 6 #[.float .f64 4602678819172646912, .int .i64 1] w fun e w' => e = .returned (.tuple #[.int .i64 1, .bool false, .int .i64 0]) ∧ w = w' :=
  fixLit 4602678819172646912 1 4607182418800017408 4607182418800017408 1 1 false w (by decide) (by decide) (by decide +kernel) (by decide +kernel) (by decide +kernel) (by decide +kernel) (by decide +kernel) (by decide +kernel) (by decide +kernel) (by decide +kernel)
theorem fix_mq1 (w : World) : Calls Tryz.prog 6 #[.float .f64 13821547256400052224, .int .i64 1] w fun e w' => e = .returned (.tuple #[.int .i64 0, .bool false, .int .i64 0]) ∧ w = w' :=
  fixLit 13821547256400052224 1 13826050856027422720 9223372036854775808 0 0 false w (by decide) (by decide) (by decide +kernel) (by decide +kernel) (by decide +kernel) (by decide +kernel) (by decide +kernel) (by decide +kernel) (by decide +kernel) (by decide +kernel)
theorem fix_mq3 (w : World) : Calls Tryz.prog 6 #[.float .f64 13828302655841107968, .int .i64 1] w fun e w' => e = .returned (.tuple #[.int .i64 (-2), .bool false, .int .i64 0]) ∧ w = w' :=
  fixLit 13828302655841107968 1 13832806255468478464 13835058055282163712 (-2) (-2) false w (by decide) (by decide) (by decide +kernel) (by decide +kernel) (by decide +kernel) (by decide +kernel) (by decide +kernel) (by decide +kernel) (by decide +kernel) (by decide +kernel)
theorem fix_one31 (w : World) : Calls Tryz.prog 6 #[.float .f64 4607182418800017408, .int .i64 31] w fun e w' => e = .returned (.tuple #[.int .i64 2147483647, .bool true, .int .i64 0]) ∧ w = w' :=
  fixLit 4607182418800017408 31 4746794007248502784 4746794007248502784 2147483648 2147483647 true w (by decide) (by decide) (by decide +kernel) (by decide +kernel) (by decide +kernel) (by decide +kernel) (by decide +kernel) (by decide +kernel) (by decide +kernel) (by decide +kernel)
theorem fix_mone31 (w : World) : Calls Tryz.prog 6 #[.float .f64 13830554455654793216, .int .i64 31] w fun e w' => e = .returned (.tuple #[.int .i64 (-2147483648), .bool false, .int .i64 0]) ∧ w = w' :=
  fixLit 13830554455654793216 31 13970166044103278592 13970166044103278592 (-2147483648) (-2147483648) false w (by decide) (by decide) (by decide +kernel) (by decide +kernel) (by decide +kernel) (by decide +kernel) (by decide +kernel) (by decide +kernel) (by decide +kernel) (by decide +kernel)
theorem fix_zero31 (w : World) : Calls Tryz.prog 6 #[.float .f64 0, .int .i64 31] w fun e w' => e = .returned (.tuple #[.int .i64 0, .bool false, .int .i64 0]) ∧ w = w' :=
  fixLit 0 31 0 0 0 0 false w (by decide) (by decide) (by decide +kernel) (by decide +kernel) (by decide +kernel) (by decide +kernel) (by decide +kernel) (by decide +kernel) (by decide +kernel) (by decide +kernel)
theorem fix_two31 (w : World) : Calls Tryz.prog 6 #[.float .f64 4611686018427387904, .int .i64 31] w fun e w' => e = .returned (.tuple #[.int .i64 2147483647, .bool true, .int .i64 0]) ∧ w = w' :=
  fixLit 4611686018427387904 31 4751297606875873280 4751297606875873280 4294967296 2147483647 true w (by decide) (by decide) (by decide +kernel) (by decide +kernel) (by decide +kernel) (by decide +kernel) (by decide +kernel) (by decide +kernel) (by decide +kernel) (by decide +kernel)
theorem fix_big (w : World) : Calls Tryz.prog 6 #[.float .f64 9094988921128908188, .int .i64 1] w fun e w' => e = .returned (.tuple #[.int .i64 2147483647, .bool true, .int .i64 0]) ∧ w = w' :=
  fix_high 9094988921128908188 1 w (by decide) (by decide) (by decide +kernel) (by decide +kernel)
theorem fix_mbig (w : World) : Calls Tryz.prog 6 #[.float .f64 18318360957983683996, .int .i64 1] w fun e w' => e = .returned (.tuple #[.int .i64 (-2147483648), .bool true, .int .i64 0]) ∧ w = w' :=
  fix_low 18318360957983683996 1 w (by decide) (by decide) (by decide +kernel) (by decide +kernel) (by decide +kernel)
theorem fix_nan1 (w : World) : Calls Tryz.prog 6 #[.float .f64 9221120237041090561, .int .i64 1] w fun e w' => e = .returned (.tuple #[.int .i64 0, .bool false, .int .i64 5]) ∧ ∃ n, w' = w.drewN n :=
  fix_nan 9221120237041090561 1 w (by decide) (by decide) (by decide +kernel)
theorem back_a (w : World) : Calls Tryz.prog 8 #[.int .i64 3, .int .i64 1] w fun e w' => e = .returned (.tuple #[.float .f64 4609434218613702656, .int .i64 0]) ∧ w = w' :=
  back_any 3 1 4609434218613702656 w (by decide) (by decide) (by decide +kernel)
theorem back_b (w : World) : Calls Tryz.prog 8 #[.int .i64 9223372036854775807, .int .i64 1] w fun e w' => e = .returned (.tuple #[.float .f64 4886405595696988160, .int .i64 0]) ∧ w = w' :=
  back_any 9223372036854775807 1 4886405595696988160 w (by decide) (by decide) (by decide +kernel)
theorem back_c (w : World) : Calls Tryz.prog 8 #[.int .i64 (-1), .int .i64 31] w fun e w' => e = .returned (.tuple #[.float .f64 13690942867206307840, .int .i64 0]) ∧ w = w' :=
  back_any (-1) 31 13690942867206307840 w (by decide) (by decide) (by decide +kernel)
end Go.Proofs.YtpamkblhdgjlcaaGreatDoor
