/- Walks of fft.Reverse and of the document's Reverse, for every j and k. -/
import Derived.Test.YtmkcnpimlgjbhabGreatFmtProg
import Derived.WalkKit
import Derived.WalkSpells
import Derived.WalkLawsBesides
import Derived.Lib.Hide
import Derived.Test.YtmkcnpimlgjbhabGreatFmtMath
namespace Go.Proofs.YtmkcnpimlgjbhabGreatFmt
open Go.RowKit

theorem ret_int {k : IntKind} {a b : Int} (h : a = b) : Ending.returned (.int k a) = .returned (.int k b) := by rw [h]
theorem ret_int2 {k k' : IntKind} {a b a' b' : Int} (h : a = b) (h' : a' = b') : Ending.returned (.tuple #[.int k a, .int k' a']) = .returned (.tuple #[.int k b, .int k' b']) := by rw [h, h']
theorem wrap64_pow (k : Nat) (h : k ≤ 12) : wrap64 (2 ^ k) = 2 ^ k := by
  have : (List.range 13).all (fun k => decide (wrap64 (2 ^ k) = 2 ^ k)) = true := by decide +kernel
  exact of_decide_eq_true (List.all_eq_true.1 this k (List.mem_range.2 (by omega)))
theorem pow_le (k : Nat) (h : k ≤ 12) : (2 : Int) ^ k ≤ 4096 := by
  have : (List.range 13).all (fun k => decide ((2 : Int) ^ k ≤ 4096)) = true := by decide +kernel
  exact of_decide_eq_true (List.all_eq_true.1 this k (List.mem_range.2 (by omega)))

set_option maxHeartbeats 400000 in
theorem reverseBytes64 (x : Int) (w : World) :
    Calls Tryz.prog 17 #[.int .u64 x] w fun e w' => e = .returned (.int .u64 (rb3 (rb2 (rb1 x)))) ∧ w = w' := by
  go_enter Tryz.func17, Tryz.ntmps17
  go_wp2
  go_ret
  exact ⟨rfl, rfl⟩
set_option maxHeartbeats 400000 in
theorem reverse64 (x : Int) (w : World) :
    Calls Tryz.prog 11 #[.int .u64 x] w fun e w' => e = .returned (.int .u64 (rev64 x)) ∧ w = w' := by
  go_enter Tryz.func11, Tryz.ntmps11
  go_wp2_with (go_at_call 17; refine (reverseBytes64 _ _).mono ?_; rintro e w' ⟨rfl, rfl⟩)
  go_ret
  exact ⟨rfl, rfl⟩
theorem wrap_small (x : Int) (h : 0 ≤ x) (h' : x < 4096) : wrap64 x = x := by unfold wrap64; omega
set_option maxHeartbeats 400000 in
theorem reverse_yes (j k : Nat) (w : World) (hk : k ≤ 12) (hj : (j : Int) < 2 ^ k) (hr : 0 ≤ revs k j ∧ revs k j < 4096) :
    Calls Tryz.prog 5 #[.int .i64 j, .int .i64 k] w fun e w' => e = .returned (.tuple #[.int .i64 (revs k j), .int .i64 0]) ∧ w = w' := by
  have hp := pow_le k hk
  have hw := Lib.hid (wrap64_pow k hk)
  have hr' := Lib.hid hr
  have hj' := Lib.hid hj
  have hj2 : j < 4096 := by omega
  clear hr hp hj
  go_enter Tryz.func5, Tryz.ntmps5
  go_wp2_with (go_at_call 11; refine (reverse64 _ _).mono ?_; rintro e w' ⟨rfl, rfl⟩)
  · have h : (((k : Int) < 0 ∨ 12 < (k : Int)) ∨ (j : Int) < 0) ∨ wrap64 (2 ^ k) ≤ (j : Int) := by assumption
    rw [hw.out] at h
    have := hj'.out
    omega
  · go_ret2
    exact ⟨ret_int2 (wrap_small _ hr'.out.1 hr'.out.2) rfl, rfl⟩
set_option maxHeartbeats 400000 in
theorem reverse_k (j k : Int) (w : World) (h : k < 0 ∨ 12 < k) :
    Calls Tryz.prog 5 #[.int .i64 j, .int .i64 k] w fun e w' => e = .returned (.tuple #[.int .i64 0, .int .i64 1]) ∧ w = w' := by
  rcases h with h | h
  all_goals
    go_enter Tryz.func5, Tryz.ntmps5
    go_wp2_with fail
    go_ret2
    exact ⟨rfl, rfl⟩
set_option maxHeartbeats 400000 in
theorem reverse_j (j k : Int) (w : World) (h1 : 0 ≤ k) (h2 : k ≤ 12) (h : j < 0) :
    Calls Tryz.prog 5 #[.int .i64 j, .int .i64 k] w fun e w' => e = .returned (.tuple #[.int .i64 0, .int .i64 1]) ∧ w = w' := by
  go_enter Tryz.func5, Tryz.ntmps5
  go_wp2_with fail
  go_ret2
  exact ⟨rfl, rfl⟩
set_option maxHeartbeats 400000 in
theorem reverse_far (j k : Nat) (w : World) (hk : k ≤ 12) (hj : ¬ (j : Int) < 2 ^ k) :
    Calls Tryz.prog 5 #[.int .i64 j, .int .i64 k] w fun e w' => e = .returned (.tuple #[.int .i64 0, .int .i64 1]) ∧ w = w' := by
  have hw := Lib.hid (wrap64_pow k hk)
  have hj' := Lib.hid hj
  clear hj
  go_enter Tryz.func5, Tryz.ntmps5
  go_wp2_with fail
  · go_ret2
    exact ⟨rfl, rfl⟩
  · have h : ((0 ≤ (k : Int) ∧ (k : Int) ≤ 12) ∧ 0 ≤ (j : Int)) ∧ (j : Int) < wrap64 (2 ^ k) := by assumption
    rw [hw.out] at h
    have := hj'.out
    omega

set_option maxHeartbeats 400000 in
theorem doc_k (j k : Int) (w : World) (h : k < 0 ∨ 12 < k) :
    Calls Tryz.prog 6 #[.int .i64 j, .int .i64 k] w fun e w' => e = .returned (.tuple #[.int .i64 0, .int .i64 1]) ∧ w = w' := by
  rcases h with h | h
  all_goals
    go_enter Tryz.func6, Tryz.ntmps6
    go_wp2_with fail
    go_ret2
    exact ⟨rfl, rfl⟩
set_option maxHeartbeats 400000 in
theorem doc_j (j k : Int) (w : World) (h1 : 0 ≤ k) (h2 : k ≤ 12) (h : j < 0) :
    Calls Tryz.prog 6 #[.int .i64 j, .int .i64 k] w fun e w' => e = .returned (.tuple #[.int .i64 0, .int .i64 1]) ∧ w = w' := by
  go_enter Tryz.func6, Tryz.ntmps6
  go_wp2_with fail
  go_ret2
  exact ⟨rfl, rfl⟩
set_option maxHeartbeats 400000 in
theorem doc_far (j k : Nat) (w : World) (hk : k ≤ 12) (hj : ¬ (j : Int) < 2 ^ k) :
    Calls Tryz.prog 6 #[.int .i64 j, .int .i64 k] w fun e w' => e = .returned (.tuple #[.int .i64 0, .int .i64 1]) ∧ w = w' := by
  have hw := Lib.hid (wrap64_pow k hk)
  have hj' := Lib.hid hj
  clear hj
  go_enter Tryz.func6, Tryz.ntmps6
  go_wp2_with fail
  · go_ret2
    exact ⟨rfl, rfl⟩
  · have h : ((0 ≤ (k : Int) ∧ (k : Int) ≤ 12) ∧ 0 ≤ (j : Int)) ∧ (j : Int) < wrap64 (2 ^ k) := by assumption
    rw [hw.out] at h
    have := hj'.out
    omega
theorem docTo_small (j : Int) (h : 0 ≤ j) (i : Nat) (hi : i ≤ 12) : (docTo j i).1 < 4096 := by
  have h1 := docTo_lt j h i
  have h2 := pow_le i hi
  omega
set_option maxHeartbeats 400000 in
theorem doc_yes (j k : Nat) (w : World) (hk : k ≤ 12) (hj : (j : Int) < 2 ^ k) :
    Calls Tryz.prog 6 #[.int .i64 j, .int .i64 k] w fun e w' => e = .returned (.tuple #[.int .i64 (docTo j k).1, .int .i64 0]) ∧ w = w' := by
  have hw := Lib.hid (wrap64_pow k hk)
  have hp := pow_le k hk
  have hj' := Lib.hid hj
  have hj2 : j < 4096 := by omega
  clear hp hj
  go_enter Tryz.func6, Tryz.ntmps6
  go_wp2_with fail
  · have h : (((k : Int) < 0 ∨ 12 < (k : Int)) ∨ (j : Int) < 0) ∨ wrap64 (2 ^ k) ≤ (j : Int) := by assumption
    rw [hw.out] at h
    have := hj'.out
    omega
  · go_loop [0, 6, 7] (fun x r i => ∃ m : Nat, m ≤ k ∧ i = .int .i64 m ∧ x = .int .i64 (docTo j m).2 ∧ r = .int .i64 (docTo j m).1) (fun _ _ i => k - (intOf i).toNat)
    case atStart => exact ⟨0, Nat.zero_le _, rfl, rfl, rfl⟩
    case round =>
      obtain ⟨m, hm, rfl, rfl, rfl⟩ := hrel
      obtain ⟨b1, b2, b3⟩ := docTo_pos j (by omega) m
      have b4 := docTo_small j (by omega) m (by omega)
      by_cases hlt : m < k
      · have hs := Lib.hid (show docTo j (m + 1) = (2 * (docTo j m).1 + (docTo j m).2 % 2, (docTo j m).2 / 2) from rfl)
        go_wp2
        go_round
        case rel => exact ⟨m + 1, by omega, by go_num, by rw [hs.out], by rw [hs.out]⟩
        case measure => simp [intOf]; omega
      · go_wp2
        go_ret2
        exact ⟨ret_int2 (by rw [show m = k by omega]) rfl, rfl⟩
end Go.Proofs.YtmkcnpimlgjbhabGreatFmt
