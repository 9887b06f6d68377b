/- QuantFixed, the law: it answers true. -/
import Derived.Test.YtmkcnpimlgjbhaaGreatDoorProg
import Derived.Test.YtmkcnpimlgjbhaaGreatDoorBase
import Derived.Test.YtmkcnpimlgjbhaaGreatDoorF1
import Derived.Test.YtmkcnpimlgjbhaaGreatDoorF2
import Derived.Test.YtmkcnpimlgjbhaaGreatDoorF3
import Derived.Test.YtmkcnpimlgjbhaaGreatDoorSec
import Derived.Test.YtmkcnpimlgjbhaaGreatDoorCyc
import Derived.Test.YtmkcnpimlgjbhaaGreatDoorQ4
import Derived.Test.YtmkcnpimlgjbhaaGreatDoorQ5
import Derived.Test.YtmkcnpimlgjbhaaGreatDoorQ7
import Derived.Test.YtmkcnpimlgjbhaaGreatDoorAwk
import Derived.WalkKit
import Derived.WalkSpells
import Derived.WalkLawsBesides
import Derived.Handy
import Derived.Deep.QuietTactic
import Derived.BigQuiet
set_option linter.unusedSimpArgs false
set_option linter.unusedVariables false
namespace Go.Proofs.YtmkcnpimlgjbhaaGreatDoor
open Go.RowKit

set_option maxRecDepth 100000 in
set_option maxHeartbeats 0 in
theorem law_ (w : World) : Calls Tryz.prog 3 #[] w fun e w' => e = .returned (.bool true) ∧ Only [] w w' := by
  have HA := Lib.hid (fun w => awake_ w)
  have F1 := Lib.hid (fun w => fix_h w)
  have F2 := Lib.hid (fun w => fix_q3 w)
  have F3 := Lib.hid (fun w => fix_mq1 w)
  have F4 := Lib.hid (fun w => fix_mq3 w)
  have F5 := Lib.hid (fun w => fix_big w)
  have F6 := Lib.hid (fun w => fix_mbig w)
  have K1 := Lib.hid (fun w => fix_one31 w)
  have K2 := Lib.hid (fun w => fix_mone31 w)
  have K3 := Lib.hid (fun w => fix_arg 9221120237041090561 0 w (.inl (by decide)))
  have K4 := Lib.hid (fun w => fix_nan1 w)
  have K5 := Lib.hid (fun w => fix_arg 4607182418800017408 32 w (.inr (by decide)))
  have B1 := Lib.hid (fun w => back_a w)
  have B2 := Lib.hid (fun w => back_b w)
  have B3 := Lib.hid (fun w => back_c w)
  have B4 := Lib.hid (fun w => back_arg 0 0 w (.inl (by decide)))
  have L1 := Lib.hid (fun w => Ldexp62 w)
  have L2 := Lib.hid (fun w => Ldexp31 w)
  have o1 : (FloatKind.f64.format.order 4609434218613702656 4609434218613702656 != some .eq) = false := by decide +kernel
  have o2 : (FloatKind.f64.format.order 4886405595696988160 4886405595696988160 != some .eq) = false := by decide +kernel
  have o3 : (FloatKind.f64.format.order 13690942867206307840 13690942867206307840 != some .eq) = false := by decide +kernel
  have un : ∀ w, (Op.unary .neg (.float .f64 4467570830351532032)).run Tryz.prog w = .ok (.float .f64 13690942867206307840) w := fun _ => by kernel_rfl
  have S1 := Lib.hid (fun w => show Calls Tryz.prog 9 #[.agg #[.complex .f64 4607182418800017408 9223372036854775808, .complex .f64 0 0, .complex .f64 0 0, .complex .f64 4611686018427387904 0, .complex .f64 0 0], .int .i64 31] w (fun e w' => e = .returned (.tuple #[.agg #[.int .i64 31, .int .i64 2147483647, .int .i64 0, .int .i64 0, .int .i64 2147483647, .int .i64 0], .int .i64 2, .int .i64 0]) ∧ Only [] w w') from sec_ok w)
  have S2 := Lib.hid (fun w => show Calls Tryz.prog 9 #[.agg #[.complex .f64 0 4607182418800017408, .complex .f64 0 0, .complex .f64 0 0, .complex .f64 0 0, .complex .f64 0 0], .int .i64 31] w (fun e w' => e = .returned (.tuple #[.agg #[.int .i64 0, .int .i64 0, .int .i64 0, .int .i64 0, .int .i64 0, .int .i64 0], .int .i64 0, .int .i64 8]) ∧ Only [] w w') from sec_pair w)
  have S3 := Lib.hid (fun w => show Calls Tryz.prog 9 #[.agg #[.complex .f64 0 4607182418800017408, .complex .f64 0 0, .complex .f64 0 0, .complex .f64 0 9221120237041090561, .complex .f64 0 0], .int .i64 31] w (fun e w' => e = .returned (.tuple #[.agg #[.int .i64 0, .int .i64 0, .int .i64 0, .int .i64 0, .int .i64 0, .int .i64 0], .int .i64 0, .int .i64 5]) ∧ Only [] w w') from sec_nan w)
  have S4 := Lib.hid (fun w => show Calls Tryz.prog 9 #[.agg #[.complex .f64 0 4607182418800017408, .complex .f64 0 0, .complex .f64 0 0, .complex .f64 0 0, .complex .f64 0 0], .int .i64 0] w (fun e w' => e = .returned (.tuple #[.agg #[.int .i64 0, .int .i64 0, .int .i64 0, .int .i64 0, .int .i64 0, .int .i64 0], .int .i64 0, .int .i64 1]) ∧ Only [] w w') from sec_arg w)
  have C1 := Lib.hid (fun w => cyc_a w)
  have C2 := Lib.hid (fun w => cyc_b w)
  have C3 := Lib.hid (fun w => cyc_c w)
  have C4 := Lib.hid (fun w => cyc_d w)
  have C5 := Lib.hid (fun w => cyc_e w)
  have T1 := Lib.hid (fun w => show Calls Tryz.prog 12 #[.agg #[.int .i64 31, .int .i64 (-2147483648), .int .i64 (-2147483648), .int .i64 (-2147483648), .int .i64 2147483647, .int .i64 2147483647], .agg #[.int .i64 (-2147483648), .int .i64 (-2147483648), .int .i64 (-2147483648), .int .i64 (-2147483648)], .int .i64 (-2147483648)] w (fun e w' => e = .returned (.tuple #[.int .i64 2147483647, .agg #[.int .i64 (-2147483648), .int .i64 (-2147483648), .int .i64 2147483647, .int .i64 (-2147483648)], .bool true]) ∧ Only [] w w') from step_big w)
  have T2 := Lib.hid (fun w => show Calls Tryz.prog 12 #[.agg #[.int .i64 32, .int .i64 5, .int .i64 0, .int .i64 0, .int .i64 0, .int .i64 0], .agg #[.int .i64 3, .int .i64 0, .int .i64 0, .int .i64 0], .int .i64 4] w (fun e w' => e = .returned (.tuple #[.int .i64 0, .agg #[.int .i64 0, .int .i64 0, .int .i64 0, .int .i64 0], .bool false]) ∧ Only [] w w') from step_32 w)
  have T3 := Lib.hid (fun w => show Calls Tryz.prog 12 #[.agg #[.int .i64 31, .int .i64 1099511627776, .int .i64 0, .int .i64 0, .int .i64 0, .int .i64 0], .agg #[.int .i64 0, .int .i64 0, .int .i64 0, .int .i64 0], .int .i64 2147483648] w (fun e w' => e = .returned (.tuple #[.int .i64 2147483646, .agg #[.int .i64 2147483647, .int .i64 0, .int .i64 2147483646, .int .i64 0], .bool false]) ∧ Only [] w w') from step_far w)
  have cs := fun w => copysign_ w
  have CS := Lib.hid cs
  clear cs
  go_enter Tryz.func3, Tryz.ntmps3
  go_wp2_with (go_at_call 4; refine (HA.out _).mono ?_; rintro e w0 ⟨rfl, O0⟩)
  refine wp_loop_rounds 7 ?_
  repeat any_goals (rw [rounds_succ]; go_wp2_with (first | (go_at_call 5; ((with_reducible refine (F1.out _).mono ?_); rintro e w' ⟨rfl, rfl⟩)) | (go_at_call 5; ((with_reducible refine (F2.out _).mono ?_); rintro e w' ⟨rfl, rfl⟩)) | (go_at_call 5; ((with_reducible refine (F3.out _).mono ?_); rintro e w' ⟨rfl, rfl⟩)) | (go_at_call 5; ((with_reducible refine (F4.out _).mono ?_); rintro e w' ⟨rfl, rfl⟩)) | (go_at_call 5; ((with_reducible refine (F5.out _).mono ?_); rintro e w' ⟨rfl, rfl⟩)) | (go_at_call 5; ((with_reducible refine (F6.out _).mono ?_); rintro e w' ⟨rfl, rfl⟩)) | (go_at_call 6; refine (nan_ _).mono ?_; rintro e w' ⟨rfl, rfl⟩)))
  go_upto_region 25 with (first | (go_at_call 5; ((with_reducible refine (K1.out _).mono ?_); rintro e w' ⟨rfl, rfl⟩)) | (go_at_call 5; ((with_reducible refine (K2.out _).mono ?_); rintro e w' ⟨rfl, rfl⟩)) | (go_at_call 5; ((with_reducible refine (K3.out _).mono ?_); rintro e w' ⟨rfl, rfl⟩)) | (go_at_call 5; ((with_reducible refine (K5.out _).mono ?_); rintro e w' ⟨rfl, rfl⟩)) | (go_at_call 5; ((with_reducible refine (K4.out _).mono ?_); rintro e w' ⟨rfl, nd, rfl⟩)) | (go_at_call 7; ((with_reducible refine (B1.out _).mono ?_); rintro e w' ⟨rfl, rfl⟩)) | (go_at_call 7; ((with_reducible refine (B2.out _).mono ?_); rintro e w' ⟨rfl, rfl⟩)) | (go_at_call 7; ((with_reducible refine (B3.out _).mono ?_); rintro e w' ⟨rfl, rfl⟩)) | (go_at_call 7; ((with_reducible refine (B4.out _).mono ?_); rintro e w' ⟨rfl, rfl⟩)) | (go_at_call 8; ((with_reducible refine (L1.out _).mono ?_); rintro e w' ⟨rfl, rfl⟩)) | (go_at_call 8; ((with_reducible refine (L2.out _).mono ?_); rintro e w' ⟨rfl, rfl⟩)) | (go_at_call 6; refine (nan_ _).mono ?_; rintro e w' ⟨rfl, rfl⟩))
  have HO1 := Lib.hid (((O0.alloc (.cells #[.float .f64 4602678819172646912, .float .f64 4604930618986332160, .float .f64 13821547256400052224, .float .f64 13828302655841107968, .float .f64 9094988921128908188, .float .f64 18318360957983683996] 23)).alloc (.cells #[.int .i64 1, .int .i64 2, .int .i64 0, .int .i64 (-2), .int .i64 2147483647, .int .i64 (-2147483648)] 2)).drewN nd)
  clear O0
  generalize ((w0.alloc (.cells #[.float .f64 4602678819172646912, .float .f64 4604930618986332160, .float .f64 13821547256400052224, .float .f64 13828302655841107968, .float .f64 9094988921128908188, .float .f64 18318360957983683996] 23)).alloc (.cells #[.int .i64 1, .int .i64 2, .int .i64 0, .int .i64 (-2), .int .i64 2147483647, .int .i64 (-2147483648)] 2)).drewN nd = w1 at *
  go_upto_region 29 with (first | (go_at_call 10; refine (CS.out _).mono ?_; rintro e w' ⟨rfl, rfl⟩) | (go_at_call 6; refine (nan_ _).mono ?_; rintro e w' ⟨rfl, rfl⟩) | (go_at_call 9; ((with_reducible refine (S1.out _).mono ?_); rintro e w2 ⟨rfl, O2⟩; have HO2 := Lib.hid O2; clear O2)) | (go_at_call 9; ((with_reducible refine (S2.out _).mono ?_); rintro e w3 ⟨rfl, O3⟩; have HO3 := Lib.hid O3; clear O3)) | (go_at_call 9; ((with_reducible refine (S3.out _).mono ?_); rintro e w4 ⟨rfl, O4⟩; have HO4 := Lib.hid O4; clear O4)) | (go_at_call 9; ((with_reducible refine (S4.out _).mono ?_); rintro e w5 ⟨rfl, O5⟩; have HO5 := Lib.hid O5; clear O5)))
  have hs := (HO3.out.trans (HO4.out.trans HO5.out)).at (block_new w2 (.cells #[.int .i64 31, .int .i64 2147483647, .int .i64 0, .int .i64 0, .int .i64 2147483647, .int .i64 0] 34)) (by simp)
  have c0 := cell_of hs 0 rfl
  have c1 := cell_of hs 1 rfl
  have c2 := cell_of hs 2 rfl
  have c3 := cell_of hs 3 rfl
  have c4 := cell_of hs 4 rfl
  have c5 := cell_of hs 5 rfl
  have P5 := Lib.hid ((HO1.out.trans HO2.out).alloc (.cells #[.int .i64 31, .int .i64 2147483647, .int .i64 0, .int .i64 0, .int .i64 2147483647, .int .i64 0] 34) |>.trans (HO3.out.trans (HO4.out.trans HO5.out)))
  clear hs HO1 HO2 HO3 HO4 HO5
  go_upto_region 39 with (first | (go_at_call 11; ((with_reducible refine (C1.out _).mono ?_); rintro e w6 ⟨rfl, O6⟩; have HO6 := Lib.hid O6; clear O6)) | (go_at_call 11; ((with_reducible refine (C2.out _).mono ?_); rintro e w7 ⟨rfl, O7⟩; have HO7 := Lib.hid O7; clear O7)) | (go_at_call 11; ((with_reducible refine (C3.out _).mono ?_); rintro e w8 ⟨rfl, O8⟩; have HO8 := Lib.hid O8; clear O8)) | (go_at_call 11; ((with_reducible refine (C4.out _).mono ?_); rintro e w9 ⟨rfl, O9⟩; have HO9 := Lib.hid O9; clear O9)) | (go_at_call 11; ((with_reducible refine (C5.out _).mono ?_); rintro e w10 ⟨rfl, O10⟩; have HO10 := Lib.hid O10; clear O10)))
  clear c0 c1 c2 c3 c4 c5
  go_upto_region 42 with (first | (go_at_call 12; ((with_reducible refine (T1.out _).mono ?_); rintro e w11 ⟨rfl, O11⟩; have HO11 := Lib.hid O11; clear O11)) | (go_at_call 12; ((with_reducible refine (T2.out _).mono ?_); rintro e w12 ⟨rfl, O12⟩; have HO12 := Lib.hid O12; clear O12)) | (go_at_call 12; ((with_reducible refine (T3.out _).mono ?_); rintro e w13 ⟨rfl, O13⟩; have HO13 := Lib.hid O13; clear O13)))
  have ha := (HO12.out.trans (((Only.refl [] w12).alloc (.cells #[.int .i64 0, .int .i64 0, .int .i64 0, .int .i64 0] 44)).trans HO13.out)).at (block_new w11 (.cells #[.int .i64 (-2147483648), .int .i64 (-2147483648), .int .i64 2147483647, .int .i64 (-2147483648)] 44)) (by simp)
  have hz := HO13.out.at (block_new w12 (.cells #[.int .i64 0, .int .i64 0, .int .i64 0, .int .i64 0] 44)) (by simp)
  have a0 := cell_old (o := .cells #[.int .i64 2147483647, .int .i64 0, .int .i64 2147483646, .int .i64 0] 44) (cell_of ha 0 rfl)
  have z0 := cell_old (o := .cells #[.int .i64 2147483647, .int .i64 0, .int .i64 2147483646, .int .i64 0] 44) (cell_of hz 0 rfl)
  have z1 := cell_old (o := .cells #[.int .i64 2147483647, .int .i64 0, .int .i64 2147483646, .int .i64 0] 44) (cell_of hz 1 rfl)
  have z2 := cell_old (o := .cells #[.int .i64 2147483647, .int .i64 0, .int .i64 2147483646, .int .i64 0] 44) (cell_of hz 2 rfl)
  have z3 := cell_old (o := .cells #[.int .i64 2147483647, .int .i64 0, .int .i64 2147483646, .int .i64 0] 44) (cell_of hz 3 rfl)
  have PE : Only [] w w13 := P5.out.trans (HO6.out.trans (HO7.out.trans (HO8.out.trans (HO9.out.trans (HO10.out.trans (HO11.out.trans (((Only.refl [] w11).alloc (.cells #[.int .i64 (-2147483648), .int .i64 (-2147483648), .int .i64 2147483647, .int .i64 (-2147483648)] 44)).trans (HO12.out.trans (((Only.refl [] w12).alloc (.cells #[.int .i64 0, .int .i64 0, .int .i64 0, .int .i64 0] 44)).trans HO13.out)))))))))
  have PX := Lib.hid PE
  clear ha hz PE P5 HO6 HO7 HO8 HO9 HO10 HO11 HO12 HO13
  go_wp2_with fail
  go_ret
  exact ⟨rfl, PX.out.alloc _⟩
end Go.Proofs.YtmkcnpimlgjbhaaGreatDoor
