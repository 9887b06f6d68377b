/- Walks of the quantiser's smallest functions: right, within, kept. -/
import Derived.Test.YtpamkblhdgjlcaaGreatDoorProg
import Derived.Test.YtpamkblhdgjlcaaGreatDoorBase
import Derived.WalkKit
import Derived.WalkSpells
import Derived.WalkLawsBesides
import Derived.Handy
import Derived.Deep.QuietTactic
import Derived.BigQuiet
set_option linter.unusedSimpArgs false
set_option linter.unusedVariables false
namespace Go.Proofs.YtpamkblhdgjlcaaGreatDoor
open Go.RowKit

def keptI (n : Int) : Int := if n < -2147483648 then -2147483648 else if 2147483647 < n then 2147483647 else n
set_option maxHeartbeats 1000000 in
theorem within_ (n : Int) (w : World) : Calls Tryz.prog 14 #[.int .i64 n] w fun e w' => e = .returned (.tuple #[.int .i64 (keptI n), .bool (keptI n != n)]) ∧ w = w' := by
  by_cases h : n < -2147483648
  · have hk : keptI n = -2147483648 := by simp [keptI, h]
    rw [hk]
    clear hk
    go_enter Tryz.func14, Tryz.ntmps14
    go_wp2_with fail
    all_goals first | omega | (go_ret2; exact ⟨rfl, rfl⟩)
  · by_cases h2 : 2147483647 < n
    · have hk : keptI n = 2147483647 := by simp [keptI, h, h2]
      have h3 : -2147483648 ≤ n := by omega
      rw [hk]
      clear hk
      go_enter Tryz.func14, Tryz.ntmps14
      go_wp2_with fail
      all_goals first | omega | (go_ret2; exact ⟨rfl, rfl⟩)
    · have hk : keptI n = n := by simp [keptI, h, h2]
      have h3 : -2147483648 ≤ n := by omega
      have h4 : n ≤ 2147483647 := by omega
      have h5 : (n != n) = false := by simp
      rw [hk, h5]
      clear hk h5
      go_enter Tryz.func14, Tryz.ntmps14
      go_wp2_with fail
      all_goals first | omega | (go_ret2; exact ⟨rfl, rfl⟩)
set_option maxHeartbeats 1000000 in
theorem kept_ (n : Int) (w : World) : Calls Tryz.prog 25 #[.int .i64 n] w fun e w' => e = .returned (.int .i64 (keptI n)) ∧ w = w' := by
  have HW := Lib.hid (fun w => within_ n w)
  generalize keptI n = k at HW ⊢
  go_enter Tryz.func25, Tryz.ntmps25
  go_wp2_with (go_at_call 14; refine (HW.out _).mono ?_; rintro e w' ⟨rfl, rfl⟩)
  go_ret
  exact ⟨rfl, rfl⟩
set_option maxHeartbeats 1000000 in
theorem right_yes (n : Int) (h1 : 1 ≤ n) (h2 : n ≤ 31) (w : World) : Calls Tryz.prog 12 #[.int .i64 n] w fun e w' => e = .returned (.bool true) ∧ w = w' := by
  have d1 : decide (1 ≤ n) = true := decide_eq_true h1
  have d2 : decide (n ≤ 31) = true := decide_eq_true h2
  go_enter Tryz.func12, Tryz.ntmps12
  go_wp2_with fail
  go_ret
  exact ⟨rfl, rfl⟩
set_option maxHeartbeats 1000000 in
theorem right_no (n : Int) (h : n < 1 ∨ 31 < n) (w : World) : Calls Tryz.prog 12 #[.int .i64 n] w fun e w' => e = .returned (.bool false) ∧ w = w' := by
  by_cases h1 : n < 1
  · have d1 : decide (1 ≤ n) = false := decide_eq_false (by omega)
    clear h
    go_enter Tryz.func12, Tryz.ntmps12
    go_wp2_with fail
    go_ret
    exact ⟨rfl, rfl⟩
  · have h1' : 1 ≤ n := by omega
    have d1 : decide (1 ≤ n) = true := decide_eq_true h1'
    have d2 : decide (n ≤ 31) = false := decide_eq_false (by omega)
    clear h h1
    go_enter Tryz.func12, Tryz.ntmps12
    go_wp2_with fail
    go_ret
    exact ⟨rfl, rfl⟩
end Go.Proofs.YtpamkblhdgjlcaaGreatDoor
