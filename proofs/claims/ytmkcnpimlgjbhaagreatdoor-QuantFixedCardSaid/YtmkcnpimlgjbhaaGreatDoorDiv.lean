/- Walk of the division of the one number of two words that the law of layer 25 makes, by 2^31. -/
import Derived.Test.YtmkcnpimlgjbhaaGreatDoorProg
import Derived.Test.YtmkcnpimlgjbhaaGreatDoorBase
import Derived.Test.YtmkcnpimlgjbhaaGreatDoorShelf
import Derived.Test.YtmkcnpimlgjbhaaGreatDoorNat1
import Derived.Test.YtmkcnpimlgjbhaaGreatDoorNat2
import Derived.Test.YtmkcnpimlgjbhaaGreatDoorNat3
import Derived.Test.YtmkcnpimlgjbhaaGreatDoorNat5
import Derived.Test.YtmkcnpimlgjbhaaGreatDoorNat6
import Derived.WalkKit
import Derived.WalkSpells
import Derived.WalkLawsBesides
import Derived.Handy
import Derived.Deep.QuietTactic
import Derived.BigQuiet
import Derived.Laws.Externs
import Derived.Shelf.Spec.BitsCarry
set_option linter.unusedSimpArgs false
set_option linter.unusedVariables false
namespace Go.Proofs.YtmkcnpimlgjbhaaGreatDoor
open Go.RowKit Go.Shelf

theorem mulLit (x y a b : Nat) (hx : x < 18446744073709551616) (hy : y < 18446744073709551616) (ha : x * y / 18446744073709551616 = a) (hb : x * y % 18446744073709551616 = b) (w : World) :
    Calls Tryz.prog 84 #[.int .u64 x, .int .u64 y] w fun e w' => e = .returned (.tuple #[.int .u64 a, .int .u64 b]) ∧ w = w' := by
  refine (Tryz.bits_Mul x y hx hy w).mono ?_
  rintro e w' ⟨rfl, rfl⟩
  rw [ha, hb]
  exact ⟨rfl, rfl⟩
theorem addLit (x y a b : Int) (hx : 0 ≤ x) (hy : 0 ≤ y) (ha : (x + y) % 18446744073709551616 = a) (hb : (x + y) / 18446744073709551616 = b) (w : World) :
    Calls Tryz.prog 52 #[.int .u64 x, .int .u64 y, .int .u64 0] w fun e w' => e = .returned (.tuple #[.int .u64 a, .int .u64 b]) ∧ w = w' := by
  refine (bitsAdd x y 0 hx hy (by decide) (by decide) w).mono ?_
  rintro e w' ⟨rfl, rfl⟩
  rw [Int.add_zero]
  unfold lo64 hi64
  rw [ha, hb]
  exact ⟨rfl, rfl⟩
theorem nlz31 (w : World) : Calls Tryz.prog 114 #[.int .u64 2147483648] w fun e w' => e = .returned (.int .u64 32) ∧ w = w' := by
  have h : ∀ w, Calls Tryz.prog 134 #[.int .u64 2147483648] w fun e w' => e = .returned (.int .i64 32) ∧ w = w' := fun w =>
    (Tryz.bits_LeadingZeros 2147483648 w (by decide) (by decide)).mono fun e w' ⟨he, hw⟩ => ⟨he.trans (ret_int (by decide +kernel)), hw.symm⟩
  have H := Lib.hid h
  clear h
  go_enter Tryz.func114, Tryz.ntmps114
  go_wp2_with (go_at_call 134; refine (H.out _).mono ?_; rintro e w' ⟨rfl, rfl⟩)
  go_ret
  exact ⟨rfl, rfl⟩
theorem lz63 (w : World) : Calls Tryz.prog 160 #[.int .u64 9223372036854775808] w fun e w' => e = .returned (.int .i64 0) ∧ w = w' :=
  (Tryz.bits_LeadingZeros64 9223372036854775808 w (by decide) (by decide)).mono fun e w' ⟨he, hw⟩ => ⟨he.trans (ret_int (by decide +kernel)), hw.symm⟩
set_option maxRecDepth 20000 in
set_option maxHeartbeats 2000000 in
theorem div64_rec (w : World) : Calls Tryz.prog 149 #[.int .u64 9223372036854775807, .int .u64 18446744073709551615, .int .u64 9223372036854775808] w fun e w' =>
    e = .returned (.tuple #[.int .u64 18446744073709551615, .int .u64 9223372036854775807]) ∧ w = w' := by
  have b1 : bits .and .u64 9223372036854775808 4294967295 = 0 := by decide +kernel
  have b2 : bits .or .u64 9223372036854775807 0 = 9223372036854775807 := by decide +kernel
  have b3 : bits .and .u64 18446744073709551615 4294967295 = 4294967295 := by decide +kernel
  have t1 : IntKind.u64.wrap (Int.tdiv 9223372036854775807 2147483648) = 4294967295 := by decide +kernel
  have t2 : IntKind.u64.wrap 9223372034707292160 = 9223372034707292160 := by decide +kernel
  have t4 : IntKind.u64.wrap 39614081257132168792477007872 = 18446744069414584320 := by decide +kernel
  have t5 : IntKind.u64.wrap 18446744069414584320 = 18446744069414584320 := by decide +kernel
  have t6 : IntKind.u64.wrap 18446744073709551615 = 18446744073709551615 := by decide +kernel
  have t7 : IntKind.u64.wrap 39614081247908796759917199360 = 9223372036854775808 := by decide +kernel
  have t8 : IntKind.u64.wrap 9223372036854775807 = 9223372036854775807 := by decide +kernel
  have t3 : IntKind.u64.wrap 2147483647 = 2147483647 := by decide +kernel
  go_enter Tryz.func149, Tryz.ntmps149
  go_wp2_with (go_at_call 160; refine (lz63 _).mono ?_; rintro e w' ⟨rfl, rfl⟩)
  refine wp_loop_rounds 1 ?_
  rw [rounds_succ]
  go_wp2_with fail
  refine wp_loop_rounds 1 ?_
  rw [rounds_succ]
  go_wp2_with fail
  go_ret2
  exact ⟨rfl, rfl⟩
theorem sub64 (x y b : Nat) (hb : b ≤ 1) (w : World) : (callFunc 68 #[.int .u64 x, .int .u64 y, .int .u64 b]).run Tryz.prog w =
    .ok (.value (.tuple #[.int .u64 (((x + 18446744073709551616 - y - b) % 18446744073709551616 : Nat) : Int), .int .u64 ((if x < y + b then 1 else 0 : Nat) : Int)])) w := by
  rw [run_callFunc_extern Tryz.func68 (by kernel_rfl) (by kernel_rfl) (by kernel_rfl) (e := sub64Entry) (by kernel_rfl), run_sub64 x y b hb]
  rfl
set_option maxHeartbeats 400000 in
theorem subLit (x y b c d : Nat) (hb : b ≤ 1) (hc : (x + 18446744073709551616 - y - b) % 18446744073709551616 = c) (hd : (if x < y + b then 1 else 0) = d) (w : World) :
    Calls Tryz.prog 55 #[.int .u64 x, .int .u64 y, .int .u64 b] w fun e w' => e = .returned (.tuple #[.int .u64 c, .int .u64 d]) ∧ w = w' := by
  have h := sub64 x y b hb
  rw [hc, hd] at h
  clear hc hd
  go_enter Tryz.func55, Tryz.ntmps55
  go_wp2_with fail
  go_ret2
  exact ⟨rfl, rfl⟩
set_option maxHeartbeats 400000 in
theorem div_rec (w : World) : Calls Tryz.prog 131 #[.int .u64 9223372036854775807, .int .u64 18446744073709551615, .int .u64 9223372036854775808] w fun e w' =>
    e = .returned (.tuple #[.int .u64 18446744073709551615, .int .u64 9223372036854775807]) ∧ w = w' := by
  go_enter Tryz.func131, Tryz.ntmps131
  go_wp2_with (go_at_call 149; refine (div64_rec _).mono ?_; rintro e w' ⟨rfl, rfl⟩)
  go_ret2
  exact ⟨rfl, rfl⟩
set_option maxHeartbeats 400000 in
theorem recip (w : World) : Calls Tryz.prog 132 #[.int .u64 2147483648] w fun e w' => e = .returned (.int .u64 18446744073709551615) ∧ w = w' := by
  have n1 : IntKind.u64.wrap (-9223372036854775808 - 1) = 9223372036854775807 := by decide +kernel
  have n2 : IntKind.u64.wrap (-9223372036854775809) = 9223372036854775807 := by decide +kernel
  have n3 : IntKind.u64.wrap 9223372036854775808 = 9223372036854775808 := by decide +kernel
  go_enter Tryz.func132, Tryz.ntmps132
  go_wp2_with (first | (go_at_call 114; refine (nlz31 _).mono ?_; rintro e w' ⟨rfl, rfl⟩) | (go_at_call 131; refine (div_rec _).mono ?_; rintro e w' ⟨rfl, rfl⟩))
  go_ret
  exact ⟨rfl, rfl⟩
set_option maxHeartbeats 1000000 in
theorem divWW_hi (w : World) : Calls Tryz.prog 133 #[.int .u64 0, .int .u64 1, .int .u64 2147483648, .int .u64 18446744073709551615] w fun e w' => e = .returned (.tuple #[.int .u64 0, .int .u64 1]) ∧ w = w' := by
  have b1 : bits .or .u64 0 0 = 0 := by decide +kernel
  have m1 : ∀ w, Calls Tryz.prog 84 #[.int .u64 18446744073709551615, .int .u64 0] w fun e w' => e = .returned (.tuple #[.int .u64 0, .int .u64 0]) ∧ w = w' := fun w => mulLit 18446744073709551615 0 0 0 (by decide) (by decide) (by decide) (by decide) w
  have m2 : ∀ w, Calls Tryz.prog 84 #[.int .u64 9223372036854775808, .int .u64 0] w fun e w' => e = .returned (.tuple #[.int .u64 0, .int .u64 0]) ∧ w = w' := fun w => mulLit 9223372036854775808 0 0 0 (by decide) (by decide) (by decide) (by decide) w
  have a1 : ∀ w, Calls Tryz.prog 52 #[.int .u64 0, .int .u64 4294967296, .int .u64 0] w fun e w' => e = .returned (.tuple #[.int .u64 4294967296, .int .u64 0]) ∧ w = w' := fun w => addLit 0 4294967296 _ _ (by decide) (by decide) (by decide) (by decide) w
  have a2 : ∀ w, Calls Tryz.prog 52 #[.int .u64 0, .int .u64 0, .int .u64 0] w fun e w' => e = .returned (.tuple #[.int .u64 0, .int .u64 0]) ∧ w = w' := fun w => addLit 0 0 _ _ (by decide) (by decide) (by decide) (by decide) w
  have s1 : ∀ w, Calls Tryz.prog 55 #[.int .u64 4294967296, .int .u64 0, .int .u64 0] w fun e w' => e = .returned (.tuple #[.int .u64 4294967296, .int .u64 0]) ∧ w = w' := fun w => subLit 4294967296 0 0 4294967296 0 (by decide) (by decide) (by decide) w
  have s2 : ∀ w, Calls Tryz.prog 55 #[.int .u64 0, .int .u64 0, .int .u64 0] w fun e w' => e = .returned (.tuple #[.int .u64 0, .int .u64 0]) ∧ w = w' := fun w => subLit 0 0 0 0 0 (by decide) (by decide) (by decide) w
  have M1 := Lib.hid m1
  have M2 := Lib.hid m2
  have A1 := Lib.hid a1
  have A2 := Lib.hid a2
  have S1 := Lib.hid s1
  have S2 := Lib.hid s2
  clear m1 m2 a1 a2 s1 s2
  go_enter Tryz.func133, Tryz.ntmps133
  go_wp2_with (first | (go_at_call 114; refine (nlz31 _).mono ?_; rintro e w' ⟨rfl, rfl⟩) | (go_at_call 84; ((with_reducible refine (M1.out _).mono ?_); rintro e w' ⟨rfl, rfl⟩)) | (go_at_call 84; ((with_reducible refine (M2.out _).mono ?_); rintro e w' ⟨rfl, rfl⟩)) | (go_at_call 52; ((with_reducible refine (A1.out _).mono ?_); rintro e w' ⟨rfl, rfl⟩)) | (go_at_call 52; ((with_reducible refine (A2.out _).mono ?_); rintro e w' ⟨rfl, rfl⟩)) | (go_at_call 55; ((with_reducible refine (S1.out _).mono ?_); rintro e w' ⟨rfl, rfl⟩)) | (go_at_call 55; ((with_reducible refine (S2.out _).mono ?_); rintro e w' ⟨rfl, rfl⟩)))
  go_ret2
  exact ⟨rfl, rfl⟩
set_option maxHeartbeats 1000000 in
theorem divWW_lo (w : World) : Calls Tryz.prog 133 #[.int .u64 1, .int .u64 4611686014132420608, .int .u64 2147483648, .int .u64 18446744073709551615] w fun e w' => e = .returned (.tuple #[.int .u64 10737418238, .int .u64 0]) ∧ w = w' := by
  have b1 : bits .or .u64 4294967296 1073741823 = 5368709119 := by decide +kernel
  have t0 : IntKind.u64.wrap 19807040610119340324676435968 = 0 := by decide +kernel
  have m1 : ∀ w, Calls Tryz.prog 84 #[.int .u64 18446744073709551615, .int .u64 5368709119] w fun e w' => e = .returned (.tuple #[.int .u64 5368709118, .int .u64 18446744068340842497]) ∧ w = w' := fun w => mulLit 18446744073709551615 5368709119 5368709118 18446744068340842497 (by decide) (by decide) (by decide) (by decide) w
  have m2 : ∀ w, Calls Tryz.prog 84 #[.int .u64 9223372036854775808, .int .u64 10737418237] w fun e w' => e = .returned (.tuple #[.int .u64 5368709118, .int .u64 9223372036854775808]) ∧ w = w' := fun w => mulLit 9223372036854775808 10737418237 5368709118 9223372036854775808 (by decide) (by decide) (by decide) (by decide) w
  have a1 : ∀ w, Calls Tryz.prog 52 #[.int .u64 18446744068340842497, .int .u64 0, .int .u64 0] w fun e w' => e = .returned (.tuple #[.int .u64 18446744068340842497, .int .u64 0]) ∧ w = w' := fun w => addLit 18446744068340842497 0 _ _ (by decide) (by decide) (by decide) (by decide) w
  have a2 : ∀ w, Calls Tryz.prog 52 #[.int .u64 5368709118, .int .u64 5368709119, .int .u64 0] w fun e w' => e = .returned (.tuple #[.int .u64 10737418237, .int .u64 0]) ∧ w = w' := fun w => addLit 5368709118 5368709119 _ _ (by decide) (by decide) (by decide) (by decide) w
  have s1 : ∀ w, Calls Tryz.prog 55 #[.int .u64 0, .int .u64 9223372036854775808, .int .u64 0] w fun e w' => e = .returned (.tuple #[.int .u64 9223372036854775808, .int .u64 1]) ∧ w = w' := fun w => subLit 0 9223372036854775808 0 9223372036854775808 1 (by decide) (by decide) (by decide) w
  have s2 : ∀ w, Calls Tryz.prog 55 #[.int .u64 5368709119, .int .u64 5368709118, .int .u64 1] w fun e w' => e = .returned (.tuple #[.int .u64 0, .int .u64 0]) ∧ w = w' := fun w => subLit 5368709119 5368709118 1 0 0 (by decide) (by decide) (by decide) w
  have M1 := Lib.hid m1
  have M2 := Lib.hid m2
  have A1 := Lib.hid a1
  have A2 := Lib.hid a2
  have S1 := Lib.hid s1
  have S2 := Lib.hid s2
  clear m1 m2 a1 a2 s1 s2
  go_enter Tryz.func133, Tryz.ntmps133
  go_wp2_with (first | (go_at_call 114; refine (nlz31 _).mono ?_; rintro e w' ⟨rfl, rfl⟩) | (go_at_call 84; ((with_reducible refine (M1.out _).mono ?_); rintro e w' ⟨rfl, rfl⟩)) | (go_at_call 84; ((with_reducible refine (M2.out _).mono ?_); rintro e w' ⟨rfl, rfl⟩)) | (go_at_call 52; ((with_reducible refine (A1.out _).mono ?_); rintro e w' ⟨rfl, rfl⟩)) | (go_at_call 52; ((with_reducible refine (A2.out _).mono ?_); rintro e w' ⟨rfl, rfl⟩)) | (go_at_call 55; ((with_reducible refine (S1.out _).mono ?_); rintro e w' ⟨rfl, rfl⟩)) | (go_at_call 55; ((with_reducible refine (S2.out _).mono ?_); rintro e w' ⟨rfl, rfl⟩)))
  go_ret2
  exact ⟨rfl, rfl⟩
set_option maxHeartbeats 2000000 in
theorem divWVW_big (a c : Nat) (w : World) (hc : 2 ≤ c) (hx0 : w.cell? ⟨a, 0, none⟩ = some (.int .u64 4611686014132420608)) (hx1 : w.cell? ⟨a, 1, none⟩ = some (.int .u64 1)) :
    Calls Tryz.prog 113 #[.slice (some ⟨w.heap.size, 0, none⟩) 2 6, .int .u64 0, .slice (some ⟨a, 0, none⟩) 2 c, .int .u64 2147483648] (w.alloc (.cells #[.int .u64 0, .int .u64 0, .int .u64 0, .int .u64 0, .int .u64 0, .int .u64 0] 79 (0, 0))) fun e w' =>
      e = .returned (.int .u64 0) ∧ w' = w.alloc (.cells #[.int .u64 10737418238, .int .u64 0, .int .u64 0, .int .u64 0, .int .u64 0, .int .u64 0] 79 (0, 0)) := by
  have hlt := World.block_lt_of_cell? w _ hx0
  go_enter Tryz.func113, Tryz.ntmps113
  go_wp2_with (go_at_call 132; refine (recip _).mono ?_; rintro e w' ⟨rfl, rfl⟩)
  refine wp_loop_rounds 3 ?_
  rw [rounds_succ]
  go_wp2_with (go_at_call 133; refine (divWW_hi _).mono ?_; rintro e w' ⟨rfl, rfl⟩)
  rw [rounds_succ]
  go_wp2_with (go_at_call 133; refine (divWW_lo _).mono ?_; rintro e w' ⟨rfl, rfl⟩)
  rw [rounds_succ]
  go_wp2_with fail
  go_ret
  exact ⟨rfl, rfl⟩
set_option maxHeartbeats 2000000 in
theorem divW_big (a c : Nat) (w : World) (hc : 2 ≤ c) (hx0 : w.cell? ⟨a, 0, none⟩ = some (.int .u64 4611686014132420608)) (hx1 : w.cell? ⟨a, 1, none⟩ = some (.int .u64 1)) :
    Calls Tryz.prog 97 #[.slice none 0 0, .slice (some ⟨a, 0, none⟩) 2 c, .int .u64 2147483648] w fun e w' =>
      e = .returned (.tuple #[.slice (some ⟨w.heap.size, 0, none⟩) 1 6, .int .u64 0]) ∧ w' = w.alloc (.cells #[.int .u64 10737418238, .int .u64 0, .int .u64 0, .int .u64 0, .int .u64 0, .int .u64 0] 79 (0, 0)) := by
  have HV := Lib.hid (divWVW_big a c w hc hx0 hx1)
  go_enter Tryz.func97, Tryz.ntmps97
  go_wp2_with (first | (go_at_call 48; refine (make_nil2 _).mono ?_; rintro e w' ⟨rfl, rfl⟩) | (go_at_call 113; refine HV.out.mono ?_; rintro e w' ⟨rfl, rfl⟩) | (go_at_call 51; refine (norm2_1 _ _ 10737418238 _ (by decide) (by decide) (by simp [go_sem]) (by simp [go_sem])).mono ?_; rintro e w' ⟨rfl, rfl⟩))
  go_ret2
  exact ⟨rfl, rfl⟩
set_option maxHeartbeats 2000000 in
theorem div_big (a c «by» cy : Nat) (w : World) (hc : 2 ≤ c) (hcy : 1 ≤ cy) (hx0 : w.cell? ⟨a, 0, none⟩ = some (.int .u64 4611686014132420608)) (hx1 : w.cell? ⟨a, 1, none⟩ = some (.int .u64 1)) (hy : w.cell? ⟨«by», 0, none⟩ = some (.int .u64 2147483648)) :
    Calls Tryz.prog 83 #[.slice none 0 0, .pointer none, .slice none 0 0, .slice (some ⟨a, 0, none⟩) 2 c, .slice (some ⟨«by», 0, none⟩) 1 cy] w fun e w' =>
      e = .returned (.tuple #[.slice (some ⟨w.heap.size, 0, none⟩) 1 6, .slice none 0 0]) ∧ w' = w.alloc (.cells #[.int .u64 10737418238, .int .u64 0, .int .u64 0, .int .u64 0, .int .u64 0, .int .u64 0] 79 (0, 0)) := by
  have HD := Lib.hid (divW_big a c w hc hx0 hx1)
  go_enter Tryz.func83, Tryz.ntmps83
  go_wp2_with (first | (go_at_call 97; refine HD.out.mono ?_; rintro e w' ⟨rfl, rfl⟩) | (go_at_call 90; refine (setWord0 _).mono ?_; rintro e w' ⟨rfl, rfl⟩))
  go_ret2
  exact ⟨rfl, rfl⟩
end Go.Proofs.YtmkcnpimlgjbhaaGreatDoor
