/- Walks of math/big's shift of naturals, and of its division by one word, at the few lengths that layer 25 needs. -/
import Derived.Test.YtpamkblhdgjlcaaGreatDoorProg
import Derived.Test.YtpamkblhdgjlcaaGreatDoorBase
import Derived.Test.YtpamkblhdgjlcaaGreatDoorNat1
import Derived.Test.YtpamkblhdgjlcaaGreatDoorNat2
import Derived.Test.YtpamkblhdgjlcaaGreatDoorNat3
import Derived.Test.YtpamkblhdgjlcaaGreatDoorNat5
import Derived.WalkKit
import Derived.WalkSpells
import Derived.WalkLawsBesides
import Derived.Handy
import Derived.Deep.QuietTactic
import Derived.BigQuiet
import Derived.Deep.RegionHeld3
set_option linter.unusedSimpArgs false
set_option linter.unusedVariables false
namespace Go.Proofs.YtpamkblhdgjlcaaGreatDoor
open Go.RowKit Go.Shelf

theorem clear_none (a : Option Addr) (c : Nat) (ty : TypeId) (w : World) : (Builtin.clear_ #[61] ty #[.slice a 0 c]).run Tryz.prog w = .ok (.tuple #[]) w := by
  cases a <;> simp [Builtin.clear_, run_underlying Tryz.underlying61]
def six0 (x : Nat) : Obj := .cells #[.int .u64 x, .int .u64 0, .int .u64 0, .int .u64 0, .int .u64 0, .int .u64 0] 82 (0, 0)

set_option maxHeartbeats 1000000 in
theorem lshVU_1 (bz bx cz cx x : Nat) (vz : Value) (w : World) (hxl : 2 * x < 18446744073709551616)
    (hx : w.cell? ⟨bx, 0, none⟩ = some (.int .u64 x)) (hz : w.cell? ⟨bz, 0, none⟩ = some vz) (hf : w.frozen? ⟨bz, 0, none⟩ = false) :
    Calls Tryz.prog 42 #[.slice (some ⟨bz, 0, none⟩) 1 cz, .slice (some ⟨bx, 0, none⟩) 1 cx, .int .u64 1] w fun e w' =>
      e = .returned (.int .u64 0) ∧ w' = w.setCell ⟨bz, 0, none⟩ (.int .u64 ((2 * x : Nat) : Int)) := by
  have b1 : bits .and .u64 1 63 = 1 := by decide +kernel
  have b2 : bits .and .u64 63 63 = 63 := by decide +kernel
  have h1 : IntKind.u64.wrap ((x : Int) * 2) = ((2 * x : Nat) : Int) := by rw [IntKind.wrap_u64]; omega
  have h2 : (x : Int) / 9223372036854775808 = 0 := by omega
  have H1 := Lib.hid h1
  have H2 := Lib.hid h2
  clear hxl h1 h2
  go_enter Tryz.func42, Tryz.ntmps42
  go_wp2_with fail
  refine wp_loop_rounds 2 ?_
  rw [rounds_succ]
  go_wp2_with fail
  rw [H1.out, H2.out]
  go_ret
  exact ⟨rfl, rfl⟩
set_option maxHeartbeats 1000000 in
theorem lsh_nil_1 (bx cx x : Nat) (w : World) (hxl : 2 * x < 18446744073709551616) (hx0 : x ≠ 0) (hcx : 1 ≤ cx)
    (hx : w.cell? ⟨bx, 0, none⟩ = some (.int .u64 x)) :
    Calls Tryz.prog 76 #[.slice none 0 0, .slice (some ⟨bx, 0, none⟩) 1 cx, .int .u64 1] w fun e w' =>
      e = .returned (.slice (some ⟨w.heap.size, 0, none⟩) 1 6) ∧ w' = w.alloc (six0 (2 * x)) := by
  have hen := lshVU_enters
  have hcl := clear_none
  have hv := lshVU_1 w.heap.size bx 6 cx x (.int .u64 0) (w.alloc (.cells #[.int .u64 0, .int .u64 0, .int .u64 0, .int .u64 0, .int .u64 0, .int .u64 0] 82 (0, 0))) hxl (cell_old hx) (by simp [go_sem]) (by simp [go_sem])
  have hp : (((2 * x : Nat) : Int) == 0) = false := by
    simp only [beq_eq_false_iff_ne, ne_eq]; omega
  unfold six0
  clear hxl hx0
  generalize 2 * x = p at hv hp ⊢
  have hz : (w.alloc (.cells #[.int .u64 0, .int .u64 0, .int .u64 0, .int .u64 0, .int .u64 0, .int .u64 0] 82 (0, 0))).setCell ⟨w.heap.size, 0, none⟩ (.int .u64 (p : Int)) = w.alloc (.cells #[.int .u64 (p : Int), .int .u64 0, .int .u64 0, .int .u64 0, .int .u64 0, .int .u64 0] 82 (0, 0)) := by
    simp [go_sem]
  rw [hz] at hv
  have HV := Lib.hid hv
  clear hv hz
  go_enter Tryz.func76, Tryz.ntmps76
  go_wp2_with (first | (go_at_call 65; refine (make_nil2 _).mono ?_; rintro e w' ⟨rfl, rfl⟩) | (go_at_call 42; refine HV.out.mono ?_; rintro e w' ⟨rfl, rfl⟩) | (go_at_call 68; refine (norm2_1 _ _ _ _ (by decide) hp (by simp [go_sem]) (by simp [go_sem])).mono ?_; rintro e w' ⟨rfl, rfl⟩))
  go_ret
  exact ⟨rfl, rfl⟩

set_option maxHeartbeats 1000000 in
theorem lshVU_31 (bz bx cz cx x : Nat) (vz : Value) (w : World) (hxl : 2147483648 * x < 18446744073709551616)
    (hx : w.cell? ⟨bx, 0, none⟩ = some (.int .u64 x)) (hz : w.cell? ⟨bz, 0, none⟩ = some vz) (hf : w.frozen? ⟨bz, 0, none⟩ = false) :
    Calls Tryz.prog 42 #[.slice (some ⟨bz, 0, none⟩) 1 cz, .slice (some ⟨bx, 0, none⟩) 1 cx, .int .u64 31] w fun e w' =>
      e = .returned (.int .u64 0) ∧ w' = w.setCell ⟨bz, 0, none⟩ (.int .u64 ((2147483648 * x : Nat) : Int)) := by
  have b1 : bits .and .u64 31 63 = 31 := by decide +kernel
  have b2 : bits .and .u64 33 63 = 33 := by decide +kernel
  have h1 : IntKind.u64.wrap ((x : Int) * 2147483648) = ((2147483648 * x : Nat) : Int) := by rw [IntKind.wrap_u64]; omega
  have h2 : (x : Int) / 8589934592 = 0 := by omega
  have H1 := Lib.hid h1
  have H2 := Lib.hid h2
  clear hxl h1 h2
  go_enter Tryz.func42, Tryz.ntmps42
  go_wp2_with fail
  refine wp_loop_rounds 2 ?_
  rw [rounds_succ]
  go_wp2_with fail
  rw [H1.out, H2.out]
  go_ret
  exact ⟨rfl, rfl⟩
set_option maxHeartbeats 1000000 in
theorem lsh_nil_31 (bx cx x : Nat) (w : World) (hxl : 2147483648 * x < 18446744073709551616) (hx0 : x ≠ 0) (hcx : 1 ≤ cx)
    (hx : w.cell? ⟨bx, 0, none⟩ = some (.int .u64 x)) :
    Calls Tryz.prog 76 #[.slice none 0 0, .slice (some ⟨bx, 0, none⟩) 1 cx, .int .u64 31] w fun e w' =>
      e = .returned (.slice (some ⟨w.heap.size, 0, none⟩) 1 6) ∧ w' = w.alloc (six0 (2147483648 * x)) := by
  have hen := lshVU_enters
  have hcl := clear_none
  have hv := lshVU_31 w.heap.size bx 6 cx x (.int .u64 0) (w.alloc (.cells #[.int .u64 0, .int .u64 0, .int .u64 0, .int .u64 0, .int .u64 0, .int .u64 0] 82 (0, 0))) hxl (cell_old hx) (by simp [go_sem]) (by simp [go_sem])
  have hp : (((2147483648 * x : Nat) : Int) == 0) = false := by
    simp only [beq_eq_false_iff_ne, ne_eq]; omega
  unfold six0
  clear hxl hx0
  generalize 2147483648 * x = p at hv hp ⊢
  have hz : (w.alloc (.cells #[.int .u64 0, .int .u64 0, .int .u64 0, .int .u64 0, .int .u64 0, .int .u64 0] 82 (0, 0))).setCell ⟨w.heap.size, 0, none⟩ (.int .u64 (p : Int)) = w.alloc (.cells #[.int .u64 (p : Int), .int .u64 0, .int .u64 0, .int .u64 0, .int .u64 0, .int .u64 0] 82 (0, 0)) := by
    simp [go_sem]
  rw [hz] at hv
  have HV := Lib.hid hv
  clear hv hz
  go_enter Tryz.func76, Tryz.ntmps76
  go_wp2_with (first | (go_at_call 65; refine (make_nil2 _).mono ?_; rintro e w' ⟨rfl, rfl⟩) | (go_at_call 42; refine HV.out.mono ?_; rintro e w' ⟨rfl, rfl⟩) | (go_at_call 68; refine (norm2_1 _ _ _ _ (by decide) hp (by simp [go_sem]) (by simp [go_sem])).mono ?_; rintro e w' ⟨rfl, rfl⟩))
  go_ret
  exact ⟨rfl, rfl⟩
set_option maxHeartbeats 1000000 in
theorem lsh_self_1 (bx x : Nat) (w : World) (hxl : 2 * x < 18446744073709551616) (hx0 : x ≠ 0) 
    (hx : w.cell? ⟨bx, 0, none⟩ = some (.int .u64 x)) :
    Calls Tryz.prog 76 #[.slice (some ⟨bx, 0, none⟩) 1 1, .slice (some ⟨bx, 0, none⟩) 1 1, .int .u64 1] w fun e w' =>
      e = .returned (.slice (some ⟨w.heap.size, 0, none⟩) 1 6) ∧ w' = w.alloc (six0 (2 * x)) := by
  have hen := lshVU_enters
  have hcl := clear_none
  have hv := lshVU_1 w.heap.size bx 6 1 x (.int .u64 0) (w.alloc (.cells #[.int .u64 0, .int .u64 0, .int .u64 0, .int .u64 0, .int .u64 0, .int .u64 0] 82 (0, 0))) hxl (cell_old hx) (by simp [go_sem]) (by simp [go_sem])
  have hp : (((2 * x : Nat) : Int) == 0) = false := by
    simp only [beq_eq_false_iff_ne, ne_eq]; omega
  unfold six0
  clear hxl hx0
  generalize 2 * x = p at hv hp ⊢
  have hz : (w.alloc (.cells #[.int .u64 0, .int .u64 0, .int .u64 0, .int .u64 0, .int .u64 0, .int .u64 0] 82 (0, 0))).setCell ⟨w.heap.size, 0, none⟩ (.int .u64 (p : Int)) = w.alloc (.cells #[.int .u64 (p : Int), .int .u64 0, .int .u64 0, .int .u64 0, .int .u64 0, .int .u64 0] 82 (0, 0)) := by
    simp [go_sem]
  rw [hz] at hv
  have HV := Lib.hid hv
  clear hv hz
  go_enter Tryz.func76, Tryz.ntmps76
  go_wp2_with (first | (go_at_call 65; refine (make_one2 _ _ _).mono ?_; rintro e w' ⟨rfl, rfl⟩) | (go_at_call 42; refine HV.out.mono ?_; rintro e w' ⟨rfl, rfl⟩) | (go_at_call 68; refine (norm2_1 _ _ _ _ (by decide) hp (by simp [go_sem]) (by simp [go_sem])).mono ?_; rintro e w' ⟨rfl, rfl⟩))
  go_ret
  exact ⟨rfl, rfl⟩

set_option maxHeartbeats 400000 in
theorem lsh_nil_nil (w : World) : Calls Tryz.prog 76 #[.slice none 0 0, .slice none 0 0, .int .u64 1] w fun e w' => e = .returned (.slice none 0 0) ∧ w = w' := by
  go_enter Tryz.func76, Tryz.ntmps76
  go_wp2_with fail
  go_ret
  exact ⟨rfl, rfl⟩

/-! div, by one word: what the quotient and the rest are in memory -/
set_option maxHeartbeats 1000000 in
theorem div_nil («by» cy y : Nat) (w : World) (h1 : 1 < y) (hcy : 1 ≤ cy) (hy : w.cell? ⟨«by», 0, none⟩ = some (.int .u64 y)) :
    Calls Tryz.prog 109 #[.slice none 0 0, .pointer none, .slice none 0 0, .slice none 0 0, .slice (some ⟨«by», 0, none⟩) 1 cy] w fun e w' =>
      e = .returned (.tuple #[.slice none 0 0, .slice none 0 0]) ∧ w = w' := by
  have HD := Lib.hid (divW0 y w h1)
  go_enter Tryz.func109, Tryz.ntmps109
  go_wp2_with (first | (go_at_call 123; refine HD.out.mono ?_; rintro e w' ⟨rfl, rfl⟩) | (go_at_call 116; refine (setWord0 _).mono ?_; rintro e w' ⟨rfl, rfl⟩))
  go_ret2
  exact ⟨rfl, rfl⟩
set_option maxHeartbeats 1000000 in
theorem div_even (bx cx «by» cy x y : Nat) (w : World) (hxl : x < 18446744073709551616) (h1 : 1 < y) (hq : x / y ≠ 0) (hr : x % y = 0) (hcx : 1 ≤ cx) (hcy : 1 ≤ cy)
    (hx : w.cell? ⟨bx, 0, none⟩ = some (.int .u64 x)) (hy : w.cell? ⟨«by», 0, none⟩ = some (.int .u64 y)) :
    Calls Tryz.prog 109 #[.slice none 0 0, .pointer none, .slice none 0 0, .slice (some ⟨bx, 0, none⟩) 1 cx, .slice (some ⟨«by», 0, none⟩) 1 cy] w fun e w' =>
      e = .returned (.tuple #[.slice (some ⟨w.heap.size, 0, none⟩) 1 1, .slice none 0 0]) ∧ ∃ n, w' = (w.alloc (.cells #[.int .u64 ((x / y : Nat) : Int)] 82 (0, 0))).drewN n := by
  have hd := divW1 bx cx x y w hxl h1 hq hcx hx
  rw [hr] at hd
  have HD := Lib.hid hd
  clear hd hxl hq hr
  generalize x / y = q at HD ⊢
  go_enter Tryz.func109, Tryz.ntmps109
  go_wp2_with (first | (go_at_call 123; refine HD.out.mono ?_; rintro e w' ⟨rfl, n, rfl⟩) | (go_at_call 116; refine (setWord0 _).mono ?_; rintro e w' ⟨rfl, rfl⟩))
  go_ret2
  exact ⟨rfl, _, rfl⟩
set_option maxHeartbeats 1000000 in
theorem div_odd (bx cx «by» cy x y : Nat) (w : World) (hxl : x < 18446744073709551616) (h1 : 1 < y) (hq : x / y ≠ 0) (hr : x % y ≠ 0) (hcx : 1 ≤ cx) (hcy : 1 ≤ cy)
    (hx : w.cell? ⟨bx, 0, none⟩ = some (.int .u64 x)) (hy : w.cell? ⟨«by», 0, none⟩ = some (.int .u64 y)) :
    Calls Tryz.prog 109 #[.slice none 0 0, .pointer none, .slice none 0 0, .slice (some ⟨bx, 0, none⟩) 1 cx, .slice (some ⟨«by», 0, none⟩) 1 cy] w fun e w' =>
      e = .returned (.tuple #[.slice (some ⟨w.heap.size, 0, none⟩) 1 1, .slice (some ⟨w.heap.size + 1, 0, none⟩) 1 1]) ∧ ∃ n, w' = ((w.alloc (.cells #[.int .u64 ((x / y : Nat) : Int)] 82 (0, 0))).alloc (.cells #[.int .u64 ((x % y : Nat) : Int)] 82 (0, 0))).drewN n := by
  have HD := Lib.hid (divW1 bx cx x y w hxl h1 hq hcx hx)
  have HS := Lib.hid (fun w => setWord1 (x % y) hr w)
  clear hxl hq hr
  generalize x / y = q at HD ⊢
  generalize x % y = r at HD HS ⊢
  go_enter Tryz.func109, Tryz.ntmps109
  go_wp2_with (first | (go_at_call 123; refine HD.out.mono ?_; rintro e w' ⟨rfl, n, rfl⟩) | (go_at_call 116; refine (HS.out _).mono ?_; rintro e w' ⟨rfl, rfl⟩))
  go_ret2
  exact ⟨by simp [World.drewN, World.alloc], _, rfl⟩
end Go.Proofs.YtpamkblhdgjlcaaGreatDoor
