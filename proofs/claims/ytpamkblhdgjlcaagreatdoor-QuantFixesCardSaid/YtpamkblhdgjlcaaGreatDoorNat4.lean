/- Walks of math/big's multiply of naturals at the few lengths that layer 25 needs. -/
import Derived.Test.YtpamkblhdgjlcaaGreatDoorProg
import Derived.Test.YtpamkblhdgjlcaaGreatDoorBase
import Derived.Test.YtpamkblhdgjlcaaGreatDoorNat1
import Derived.Test.YtpamkblhdgjlcaaGreatDoorNat2
import Derived.Test.YtpamkblhdgjlcaaGreatDoorNat3
import Derived.Test.YtpamkblhdgjlcaaGreatDoorShelf
import Derived.WalkKit
import Derived.WalkSpells
import Derived.WalkLawsBesides
import Derived.Handy
import Derived.Deep.QuietTactic
import Derived.BigQuiet
import Derived.Deep.RegionHeld3
set_option linter.unusedSimpArgs false
set_option linter.unusedVariables false
namespace Go.Proofs.YtpamkblhdgjlcaaGreatDoor
open Go.RowKit Go.Shelf

set_option maxHeartbeats 400000 in
/-- a product that fits into one word, nothing added -/
theorem mulAddWWW (x y : Nat) (h : x * y < 18446744073709551616) (hx : x < 18446744073709551616) (hy : y < 18446744073709551616) (w : World) :
    Calls Tryz.prog 112 #[.int .u64 x, .int .u64 y, .int .u64 0] w fun e w' => e = .returned (.tuple #[.int .u64 0, .int .u64 ((x * y : Nat) : Int)]) ∧ w = w' := by
  have hm := fun w => Tryz.bits_Mul x y hx hy w
  rw [Nat.div_eq_of_lt h, Nat.mod_eq_of_lt h] at hm
  have HM := Lib.hid hm
  clear hm
  have ha := fun w => bitsAdd ((x * y : Nat) : Int) 0 0 (by omega) (by decide) (by decide) (by decide) w
  have h1 : lo64 (((x * y : Nat) : Int) + 0 + 0) = ((x * y : Nat) : Int) := by unfold lo64; omega
  have h2 : hi64 (((x * y : Nat) : Int) + 0 + 0) = 0 := by unfold hi64; omega
  rw [h1, h2] at ha
  have HA := Lib.hid ha
  clear ha h1 h2 h hx hy
  generalize x * y = p at HM HA ⊢
  go_enter Tryz.func112, Tryz.ntmps112
  go_wp2_with (first | (go_at_call 110; refine (HM.out _).mono ?_; rintro e w' ⟨rfl, rfl⟩) | (go_at_call 69; refine (HA.out _).mono ?_; rintro e w' ⟨rfl, rfl⟩))
  go_ret2
  exact ⟨rfl, rfl⟩
set_option maxHeartbeats 400000 in
theorem mulAddVWW1 (bz bx cz cx : Nat) (x y : Nat) (vz : Value) (w : World) (h : x * y < 18446744073709551616) (hxl : x < 18446744073709551616) (hyl : y < 18446744073709551616)
    (hx : w.cell? ⟨bx, 0, none⟩ = some (.int .u64 x)) (hz : w.cell? ⟨bz, 0, none⟩ = some vz) (hf : w.frozen? ⟨bz, 0, none⟩ = false) :
    Calls Tryz.prog 44 #[.slice (some ⟨bz, 0, none⟩) 1 cz, .slice (some ⟨bx, 0, none⟩) 1 cx, .int .u64 y, .int .u64 0] w fun e w' =>
      e = .returned (.int .u64 0) ∧ w' = w.setCell ⟨bz, 0, none⟩ (.int .u64 ((x * y : Nat) : Int)) := by
  have HM := Lib.hid (fun w => mulAddWWW x y h hxl hyl w)
  clear h hxl hyl
  generalize x * y = p at HM ⊢
  go_enter Tryz.func44, Tryz.ntmps44
  go_wp2_with fail
  refine wp_loop_rounds 2 ?_
  rw [rounds_succ]
  go_wp2_with (go_at_call 112; refine (HM.out _).mono ?_; rintro e w' ⟨rfl, rfl⟩)
  rw [rounds_succ]
  go_wp2_with fail
  go_ret
  exact ⟨rfl, rfl⟩
set_option maxHeartbeats 1000000 in
theorem mulAddWW_nil (bx cx : Nat) (x y : Nat) (w : World) (h : x * y < 18446744073709551616) (hxl : x < 18446744073709551616) (hyl : y < 18446744073709551616) (h0 : x * y ≠ 0)
    (hcx : 1 ≤ cx) (hx : w.cell? ⟨bx, 0, none⟩ = some (.int .u64 x)) :
    Calls Tryz.prog 101 #[.slice none 0 0, .slice (some ⟨bx, 0, none⟩) 1 cx, .int .u64 y, .int .u64 0] w fun e w' =>
      e = .returned (.slice (some ⟨w.heap.size, 0, none⟩) 1 6) ∧ ∃ n, w' = (w.alloc (.cells #[.int .u64 ((x * y : Nat) : Int), .int .u64 0, .int .u64 0, .int .u64 0, .int .u64 0, .int .u64 0] 82 (0, 0))).drewN n := by
  have hen := mulAddVWW_enters
  have hy0 : ((y : Int) == 0) = false := by
    have : y ≠ 0 := by rintro rfl; simp at h0
    simp only [beq_eq_false_iff_ne, ne_eq]; omega
  have HV := Lib.hid (mulAddVWW1 w.heap.size bx 6 cx x y (.int .u64 0) (w.alloc (.cells #[.int .u64 0, .int .u64 0, .int .u64 0, .int .u64 0, .int .u64 0, .int .u64 0] 82 (0, 0))) h hxl hyl (cell_old hx) (by simp [go_sem]) (by simp [go_sem]))
  have hp : (((x * y : Nat) : Int) == 0) = false := by
    simp only [beq_eq_false_iff_ne, ne_eq]; omega
  clear h hxl hyl h0
  generalize x * y = p at HV hp ⊢
  have hv := HV.out
  have hz : (w.alloc (.cells #[.int .u64 0, .int .u64 0, .int .u64 0, .int .u64 0, .int .u64 0, .int .u64 0] 82 (0, 0))).setCell ⟨w.heap.size, 0, none⟩ (.int .u64 (p : Int)) = w.alloc (.cells #[.int .u64 (p : Int), .int .u64 0, .int .u64 0, .int .u64 0, .int .u64 0, .int .u64 0] 82 (0, 0)) := by
    simp [go_sem]
  rw [hz] at hv
  have HV2 := Lib.hid hv
  clear hv hz HV
  go_enter Tryz.func101, Tryz.ntmps101
  go_wp2_with (first | (go_at_call 65; refine (make_nil2 _).mono ?_; rintro e w' ⟨rfl, rfl⟩) | (go_at_call 44; refine HV2.out.mono ?_; rintro e w' ⟨rfl, rfl⟩) | (go_at_call 68; refine (norm2_1 _ _ _ _ (by decide) hp (by simp [go_sem]) (by simp [go_sem])).mono ?_; rintro e w' ⟨rfl, rfl⟩))
  go_ret
  exact ⟨rfl, 0, rfl⟩
set_option maxHeartbeats 400000 in
theorem mul_nil_nil (p : Value) (w : World) :
    Calls Tryz.prog 74 #[.slice none 0 0, p, .slice none 0 0, .slice none 0 0] w fun e w' => e = .returned (.slice none 0 0) ∧ w = w' := by
  go_enter Tryz.func74, Tryz.ntmps74
  go_wp2_with fail
  go_ret
  refine ⟨?_, ?_⟩
  · rfl
  · rfl
set_option maxHeartbeats 400000 in
theorem mul_one_nil (p : Value) (a : Addr) (c : Nat) (w : World) :
    Calls Tryz.prog 74 #[.slice none 0 0, p, .slice (some a) 1 c, .slice none 0 0] w fun e w' => e = .returned (.slice none 0 0) ∧ w = w' := by
  go_enter Tryz.func74, Tryz.ntmps74
  go_wp2_with fail
  go_ret
  exact ⟨rfl, rfl⟩
set_option maxHeartbeats 400000 in
theorem mul_nil_one (p : Value) (a : Addr) (c : Nat) (w : World) :
    Calls Tryz.prog 74 #[.slice none 0 0, p, .slice none 0 0, .slice (some a) 1 c] w fun e w' => e = .returned (.slice none 0 0) ∧ w = w' := by
  have HM := Lib.hid (mul_one_nil p a c w)
  go_enter Tryz.func74, Tryz.ntmps74
  go_wp2_with (go_at_call 74; refine HM.out.mono ?_; rintro e w' ⟨rfl, rfl⟩)
  go_ret
  exact ⟨rfl, rfl⟩
set_option maxHeartbeats 1000000 in
theorem mul_one_one (p : Value) (bx cx «by» cy : Nat) (x y : Nat) (w : World) (h : x * y < 18446744073709551616) (hxl : x < 18446744073709551616) (hyl : y < 18446744073709551616) (h0 : x * y ≠ 0)
    (hcx : 1 ≤ cx) (hcy : 1 ≤ cy) (hx : w.cell? ⟨bx, 0, none⟩ = some (.int .u64 x)) (hy : w.cell? ⟨«by», 0, none⟩ = some (.int .u64 y)) :
    Calls Tryz.prog 74 #[.slice none 0 0, p, .slice (some ⟨bx, 0, none⟩) 1 cx, .slice (some ⟨«by», 0, none⟩) 1 cy] w fun e w' =>
      e = .returned (.slice (some ⟨w.heap.size, 0, none⟩) 1 6) ∧ ∃ n, w' = (w.alloc (.cells #[.int .u64 ((x * y : Nat) : Int), .int .u64 0, .int .u64 0, .int .u64 0, .int .u64 0, .int .u64 0] 82 (0, 0))).drewN n := by
  have HV := Lib.hid (mulAddWW_nil bx cx x y w h hxl hyl h0 hcx hx)
  clear h hxl hyl h0
  generalize x * y = q at HV ⊢
  go_enter Tryz.func74, Tryz.ntmps74
  go_wp2_with (go_at_call 101; refine HV.out.mono ?_; rintro e w' ⟨rfl, n, rfl⟩)
  go_ret
  exact ⟨rfl, _, rfl⟩
end Go.Proofs.YtpamkblhdgjlcaaGreatDoor
