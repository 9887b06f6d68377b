/- Walks of math/big's division of naturals by one word, and of its shift, at the few lengths that layer 25 needs. -/
import Derived.Test.YtpamkblhdgjlcaaGreatDoorProg
import Derived.Test.YtpamkblhdgjlcaaGreatDoorBase
import Derived.Test.YtpamkblhdgjlcaaGreatDoorNat1
import Derived.Test.YtpamkblhdgjlcaaGreatDoorNat2
import Derived.Test.YtpamkblhdgjlcaaGreatDoorNat3
import Derived.WalkKit
import Derived.WalkSpells
import Derived.WalkLawsBesides
import Derived.Handy
import Derived.Deep.QuietTactic
import Derived.BigQuiet
import Derived.Deep.RegionHeld3
set_option linter.unusedSimpArgs false
set_option linter.unusedVariables false
namespace Go.Proofs.YtpamkblhdgjlcaaGreatDoor
open Go.RowKit Go.Shelf

theorem wrap_small (n : Nat) (h : n < 18446744073709551616) : IntKind.u64.wrap (n : Int) = n := by
  show ((n : Int) % 18446744073709551616) = n
  omega
set_option maxHeartbeats 1000000 in
theorem div64_0 (x y : Nat) (hx : x < 18446744073709551616) (h0 : y ≠ 0) (w : World) :
    Calls Tryz.prog 175 #[.int .u64 0, .int .u64 x, .int .u64 y] w fun e w' => e = .returned (.tuple #[.int .u64 ((x / y : Nat) : Int), .int .u64 ((x % y : Nat) : Int)]) ∧ ∃ n, w' = w.drewN n := by
  have hy : ((y : Int) == 0) = false := by simp only [beq_eq_false_iff_ne, ne_eq]; omega
  have hle : decide ((y : Int) ≤ 0) = false := decide_eq_false (by omega)
  have hq : IntKind.u64.wrap ((x : Int) / (y : Int)) = ((x / y : Nat) : Int) := (congrArg _ (Int.natCast_ediv x y).symm).trans (wrap_small _ (Nat.lt_of_le_of_lt (Nat.div_le_self x y) hx))
  have hr : (x : Int) % (y : Int) = ((x % y : Nat) : Int) := (Int.natCast_emod x y).symm
  have HQ := Lib.hid hq
  have HR := Lib.hid hr
  clear hq hr hx
  go_enter Tryz.func175, Tryz.ntmps175
  go_wp2_with fail
  go_quiet (fail)
  go_wp2_with fail
  go_ret2
  exact ⟨by (rw [HQ.out, HR.out]; rfl), _, rfl⟩
set_option maxHeartbeats 1000000 in
theorem bitsDiv0 (x y : Nat) (hx : x < 18446744073709551616) (h0 : y ≠ 0) (w : World) :
    Calls Tryz.prog 157 #[.int .u64 0, .int .u64 x, .int .u64 y] w fun e w' => e = .returned (.tuple #[.int .u64 ((x / y : Nat) : Int), .int .u64 ((x % y : Nat) : Int)]) ∧ ∃ n, w' = w.drewN n := by
  have HD := Lib.hid (fun w => div64_0 x y hx h0 w)
  clear hx h0
  generalize x / y = q at HD ⊢
  generalize x % y = r at HD ⊢
  go_enter Tryz.func157, Tryz.ntmps157
  go_wp2_with (go_at_call 175; refine (HD.out _).mono ?_; rintro e w' ⟨rfl, n, rfl⟩)
  go_ret2
  exact ⟨rfl, _, rfl⟩
set_option maxHeartbeats 1000000 in
theorem divWVW1 (bz bx cz cx x y : Nat) (vz : Value) (w : World) (hxl : x < 18446744073709551616) (h0 : y ≠ 0)
    (hx : w.cell? ⟨bx, 0, none⟩ = some (.int .u64 x)) (hz : w.cell? ⟨bz, 0, none⟩ = some vz) (hf : w.frozen? ⟨bz, 0, none⟩ = false) :
    Calls Tryz.prog 139 #[.slice (some ⟨bz, 0, none⟩) 1 cz, .int .u64 0, .slice (some ⟨bx, 0, none⟩) 1 cx, .int .u64 y] w fun e w' =>
      e = .returned (.int .u64 ((x % y : Nat) : Int)) ∧ ∃ n, w' = (w.setCell ⟨bz, 0, none⟩ (.int .u64 ((x / y : Nat) : Int))).drewN n := by
  have HD := Lib.hid (fun w => bitsDiv0 x y hxl h0 w)
  clear hxl h0
  generalize x / y = q at HD ⊢
  generalize x % y = r at HD ⊢
  go_enter Tryz.func139, Tryz.ntmps139
  go_wp2_with (go_at_call 157; refine (HD.out _).mono ?_; rintro e w' ⟨rfl, n, rfl⟩)
  go_ret
  exact ⟨rfl, _, rfl⟩
set_option maxHeartbeats 1000000 in
/-- one word by one word, both results into new memory; the quotient is not nothing -/
theorem divW1 (bx cx x y : Nat) (w : World) (hxl : x < 18446744073709551616) (h1 : 1 < y) (hq : x / y ≠ 0) (hcx : 1 ≤ cx)
    (hx : w.cell? ⟨bx, 0, none⟩ = some (.int .u64 x)) :
    Calls Tryz.prog 123 #[.slice none 0 0, .slice (some ⟨bx, 0, none⟩) 1 cx, .int .u64 y] w fun e w' =>
      e = .returned (.tuple #[.slice (some ⟨w.heap.size, 0, none⟩) 1 1, .int .u64 ((x % y : Nat) : Int)]) ∧ ∃ n, w' = (w.alloc (.cells #[.int .u64 ((x / y : Nat) : Int)] 82 (0, 0))).drewN n := by
  have hy0 : ((y : Int) == 0) = false := by simp only [beq_eq_false_iff_ne, ne_eq]; omega
  have hy1 : ((y : Int) == 1) = false := by simp only [beq_eq_false_iff_ne, ne_eq]; omega
  have hq0 : (((x / y : Nat) : Int) == 0) = false := by simp only [beq_eq_false_iff_ne, ne_eq]; omega
  have hv := divWVW1 w.heap.size bx 1 cx x y (.int .u64 0) (w.alloc (.cells #[.int .u64 0] 82 (0, 0))) hxl (by omega) (cell_old hx) (by simp [go_sem]) (by simp [go_sem])
  clear hxl h1 hq
  generalize x / y = q at hv hq0 ⊢
  generalize x % y = r at hv ⊢
  have hz : (w.alloc (.cells #[.int .u64 0] 82 (0, 0))).setCell ⟨w.heap.size, 0, none⟩ (.int .u64 (q : Int)) = w.alloc (.cells #[.int .u64 (q : Int)] 82 (0, 0)) := by
    simp [go_sem]
  rw [hz] at hv
  have HV := Lib.hid hv
  clear hv hz
  go_enter Tryz.func123, Tryz.ntmps123
  go_wp2_with (first | (go_at_call 65; refine (make_one _).mono ?_; rintro e w' ⟨rfl, rfl⟩) | (go_at_call 139; refine HV.out.mono ?_; rintro e w' ⟨rfl, n, rfl⟩) | (go_at_call 68; refine (norm1 _ _ _ _ (by decide) hq0 (by simp [go_sem])).mono ?_; rintro e w' ⟨rfl, rfl⟩))
  go_ret2
  exact ⟨rfl, _, rfl⟩
set_option maxHeartbeats 1000000 in
theorem divW0 (y : Nat) (w : World) (h1 : 1 < y) :
    Calls Tryz.prog 123 #[.slice none 0 0, .slice none 0 0, .int .u64 y] w fun e w' => e = .returned (.tuple #[.slice none 0 0, .int .u64 0]) ∧ w = w' := by
  have hy0 : ((y : Int) == 0) = false := by simp only [beq_eq_false_iff_ne, ne_eq]; omega
  have hy1 : ((y : Int) == 1) = false := by simp only [beq_eq_false_iff_ne, ne_eq]; omega
  clear h1
  go_enter Tryz.func123, Tryz.ntmps123
  go_wp2_with fail
  go_ret2
  exact ⟨rfl, rfl⟩
set_option maxHeartbeats 1000000 in
theorem setWord0 (w : World) : Calls Tryz.prog 116 #[.slice none 0 0, .int .u64 0] w fun e w' => e = .returned (.slice none 0 0) ∧ w = w' := by
  go_enter Tryz.func116, Tryz.ntmps116
  go_wp2_with fail
  go_ret
  exact ⟨rfl, rfl⟩
set_option maxHeartbeats 1000000 in
theorem setWord1 (x : Nat) (hx : x ≠ 0) (w : World) : Calls Tryz.prog 116 #[.slice none 0 0, .int .u64 x] w fun e w' => e = .returned (.slice (some ⟨w.heap.size, 0, none⟩) 1 1) ∧ w' = w.alloc (.cells #[.int .u64 x] 82 (0, 0)) := by
  have hx0 : ((x : Int) == 0) = false := by simp only [beq_eq_false_iff_ne, ne_eq]; omega
  clear hx
  go_enter Tryz.func116, Tryz.ntmps116
  go_wp2_with (go_at_call 65; refine (make_one _).mono ?_; rintro e w' ⟨rfl, rfl⟩)
  go_ret
  exact ⟨rfl, rfl⟩
end Go.Proofs.YtpamkblhdgjlcaaGreatDoor
