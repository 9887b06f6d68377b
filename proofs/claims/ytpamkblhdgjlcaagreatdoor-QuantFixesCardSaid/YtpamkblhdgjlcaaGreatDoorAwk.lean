/- awake() of layer 25 answers true. -/
import Derived.Test.YtpamkblhdgjlcaaGreatDoorProg
import Derived.Test.YtpamkblhdgjlcaaGreatDoorBase
import Derived.Test.YtpamkblhdgjlcaaGreatDoorF3
import Derived.Test.YtpamkblhdgjlcaaGreatDoorQ4
import Derived.Test.YtpamkblhdgjlcaaGreatDoorQ5
import Derived.WalkKit
import Derived.WalkSpells
import Derived.WalkLawsBesides
import Derived.Handy
import Derived.Deep.QuietTactic
import Derived.BigQuiet
set_option linter.unusedSimpArgs false
set_option linter.unusedVariables false
namespace Go.Proofs.YtpamkblhdgjlcaaGreatDoor
open Go.RowKit

set_option maxHeartbeats 2000000 in
theorem awake_ (w : World) : Calls Tryz.prog 4 #[] w fun e w' => e = .returned (.bool true) ∧ Only [] w w' := by
  have H1 := Lib.hid (fun w => fix_q1 w)
  have H2 := Lib.hid (fun w => fix_q3 w)
  have H3 := Lib.hid (fun w => show Calls Tryz.prog 11 #[.agg #[.int .i64 1, .int .i64 1, .int .i64 0, .int .i64 0, .int .i64 0, .int .i64 0], .agg #[.int .i64 0, .int .i64 0, .int .i64 0, .int .i64 0], .int .i64 3] w (fun e w' => e = .returned (.tuple #[.int .i64 2, .agg #[.int .i64 3, .int .i64 0, .int .i64 2, .int .i64 0], .bool false]) ∧ Only [] w w') from step_awake w)
  go_enter Tryz.func4, Tryz.ntmps4
  go_wp2_with (first | (go_at_call 6; ((with_reducible refine (H1.out _).mono ?_); rintro e w' ⟨rfl, rfl⟩)) | (go_at_call 6; ((with_reducible refine (H2.out _).mono ?_); rintro e w' ⟨rfl, rfl⟩)) | (go_at_call 11; refine (H3.out _).mono ?_; rintro e w' ⟨rfl, O⟩))
  go_ret
  exact ⟨rfl, O.alloc _⟩
end Go.Proofs.YtpamkblhdgjlcaaGreatDoor
