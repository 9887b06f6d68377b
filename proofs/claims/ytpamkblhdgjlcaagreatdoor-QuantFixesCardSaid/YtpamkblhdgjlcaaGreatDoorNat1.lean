/- Walks of math/big's vectors at the few lengths that layer 25 needs: words as ints from 0 on, below 2^64. -/
import Derived.Test.YtpamkblhdgjlcaaGreatDoorProg
import Derived.Test.YtpamkblhdgjlcaaGreatDoorBase
import Derived.WalkKit
import Derived.WalkSpells
import Derived.WalkLawsBesides
import Derived.Handy
import Derived.Deep.QuietTactic
import Derived.BigQuiet
import Derived.Laws.Externs
import Derived.Laws.Twins
import Derived.Laws.IdiomCopy
import Derived.Shelf.Spec.BitsCarry
namespace Go.Proofs.YtpamkblhdgjlcaaGreatDoor
open Go.RowKit Go.Shelf

def lo64 (x : Int) : Int := x % 18446744073709551616
def hi64 (x : Int) : Int := x / 18446744073709551616

theorem addVV_enters (args : Array Value) (w : World) : (callFunc 66 args).run Tryz.prog w = .ok (.enter 40 args) w :=
  run_callFunc_twin (twin := "math/big.addVV_g") Tryz.func66 (by kernel_rfl) (by kernel_rfl) (by kernel_rfl) (by kernel_rfl) Tryz.func40 (by kernel_rfl) (by kernel_rfl) (by kernel_rfl) args w
theorem lshVU_enters (args : Array Value) (w : World) : (callFunc 108 args).run Tryz.prog w = .ok (.enter 42 args) w :=
  run_callFunc_twin (twin := "math/big.lshVU_g") Tryz.func108 (by kernel_rfl) (by kernel_rfl) (by kernel_rfl) (by kernel_rfl) Tryz.func42 (by kernel_rfl) (by kernel_rfl) (by kernel_rfl) args w
theorem mulAddVWW_enters (args : Array Value) (w : World) : (callFunc 117 args).run Tryz.prog w = .ok (.enter 44 args) w :=
  run_callFunc_twin (twin := "math/big.mulAddVWW_g") Tryz.func117 (by kernel_rfl) (by kernel_rfl) (by kernel_rfl) (by kernel_rfl) Tryz.func44 (by kernel_rfl) (by kernel_rfl) (by kernel_rfl) args w

theorem add64 (x y c : Int) (hx : 0 ≤ x) (hy : 0 ≤ y) (hc0 : 0 ≤ c) (hc : c ≤ 1) (w : World) : (callFunc 92 #[.int .u64 x, .int .u64 y, .int .u64 c]).run Tryz.prog w =
    .ok (.value (.tuple #[.int .u64 (lo64 (x + y + c)), .int .u64 (hi64 (x + y + c))])) w := by
  obtain ⟨x, rfl⟩ := Int.eq_ofNat_of_zero_le hx
  obtain ⟨y, rfl⟩ := Int.eq_ofNat_of_zero_le hy
  obtain ⟨c, rfl⟩ := Int.eq_ofNat_of_zero_le hc0
  rw [run_callFunc_extern Tryz.func92 (by kernel_rfl) (by kernel_rfl) (by kernel_rfl) (e := add64Entry) (by kernel_rfl), run_add64 x y c (by omega) (by omega) (by omega) (by omega)]
  simp only [Result.andThen, lo64, hi64]
set_option maxHeartbeats 400000 in
theorem bitsAdd (x y c : Int) (hx : 0 ≤ x) (hy : 0 ≤ y) (hc0 : 0 ≤ c) (hc : c ≤ 1) (w : World) :
    Calls Tryz.prog 69 #[.int .u64 x, .int .u64 y, .int .u64 c] w fun e w' => e = .returned (.tuple #[.int .u64 (lo64 (x + y + c)), .int .u64 (hi64 (x + y + c))]) ∧ w = w' := by
  have h := add64 x y c hx hy hc0 hc
  go_enter Tryz.func69, Tryz.ntmps69
  go_wp2_with fail
  go_ret2
  exact ⟨rfl, rfl⟩
set_option maxHeartbeats 400000 in
theorem addVV1 (bz bx «by» cz cx cy : Nat) (x y : Int) (vz : Value) (w : World) (hx0 : 0 ≤ x) (hy0 : 0 ≤ y)
    (hx : w.cell? ⟨bx, 0, none⟩ = some (.int .u64 x)) (hy : w.cell? ⟨«by», 0, none⟩ = some (.int .u64 y)) (hz : w.cell? ⟨bz, 0, none⟩ = some vz) (hf : w.frozen? ⟨bz, 0, none⟩ = false) :
    Calls Tryz.prog 40 #[.slice (some ⟨bz, 0, none⟩) 1 cz, .slice (some ⟨bx, 0, none⟩) 1 cx, .slice (some ⟨«by», 0, none⟩) 1 cy] w fun e w' =>
      e = .returned (.int .u64 (hi64 (x + y))) ∧ ∃ n, w' = (w.setCell ⟨bz, 0, none⟩ (.int .u64 (lo64 (x + y)))).drewN n := by
  have ha := fun w => bitsAdd x y 0 hx0 hy0 (by decide) (by decide) w
  simp only [Int.add_zero] at ha
  have HA := Lib.hid ha
  clear ha
  go_enter Tryz.func40, Tryz.ntmps40
  go_wp2_with fail
  refine wp_loop_rounds 2 ?_
  rw [rounds_succ]
  go_wp2_with fail
  go_quiet ((go_at_call 69; exact quiet_left (HA.out _)))
  go_wp2_with fail
  rw [rounds_succ]
  go_wp2_with fail
  go_ret
  exact ⟨rfl, _, rfl⟩
end Go.Proofs.YtpamkblhdgjlcaaGreatDoor
