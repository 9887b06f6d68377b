/- FftReverses: awake() answers true; so does the whole law, at every j and k. -/
import Derived.Test.YtmkcnpimlgjbhabGreatFmtProg
import Derived.Test.YtmkcnpimlgjbhabGreatFmtTurns
import Derived.WalkKit
import Derived.WalkSpells
import Derived.WalkLawsBesides
import Derived.Lib.Hide
import Derived.Handy
import Derived.Deep.QuietTactic
import Derived.BigQuiet
namespace Go.Proofs.YtmkcnpimlgjbhabGreatFmt
open Go.RowKit
theorem Four.later {w w' : World} {B g : Nat} {z0 z1 z2 z3 : Value} (h : Four w g z0 z1 z2 z3) (hw : Below B w w') (hg : g < B) : Four w' g z0 z1 z2 z3 :=
  ⟨Nat.lt_of_lt_of_le h.1 hw.size, (hw.cell (p := ⟨g, 0, none⟩) hg).trans h.2.1, (hw.cell (p := ⟨g, 1, none⟩) hg).trans h.2.2.1, (hw.cell (p := ⟨g, 2, none⟩) hg).trans h.2.2.2.1, (hw.cell (p := ⟨g, 3, none⟩) hg).trans h.2.2.2.2⟩
theorem Four.new (w : World) (z0 z1 z2 z3 : Value) (t : Nat) : Four (w.alloc (.cells #[z0, z1, z2, z3] t (0, 0))) w.heap.size z0 z1 z2 z3 := by
  refine ⟨?_, ?_, ?_, ?_, ?_⟩ <;> simp [go_sem]
set_option maxRecDepth 100000 in
set_option maxHeartbeats 2000000 in
theorem awake (w : World) : Calls Tryz.prog 4 #[] w fun e w' => e = .returned (.bool true) ∧ Below w.heap.size w w' := by
  go_enter Tryz.func4, Tryz.ntmps4
  go_wp2_with fail
  refine (four _).mono ?_
  rintro e w1 ⟨rfl, hw1⟩
  have hF := Four.new w (.complex .f64 4607182418800017408 0) (.complex .f64 4611686018427387904 0) (.complex .f64 4613937818241073152 0) (.complex .f64 4616189618054758400 0) 34
  rw [← hw1] at hF
  have b1 : Below w.heap.size w w1 := by rw [hw1]; go_grown
  have z1 : w1.heap.size = w.heap.size + 1 := by rw [hw1]; simp
  have hF' := Lib.hid hF
  have b1' := Lib.hid b1
  have z1' := Lib.hid z1
  clear hF b1 z1 hw1
  go_wp2_with fail
  refine (forward _ _ hF'.out).mono ?_
  rintro e w2 ⟨rfl, hf2, hw2⟩
  have g2 := Lib.hid hf2
  have b2 := Lib.hid hw2
  clear hf2 hw2
  go_wp2_with fail
  refine (inverse _ _ g2.out).mono ?_
  rintro e w3 ⟨rfl, hf3, hw3⟩
  have g3 := Lib.hid hf3
  have b3 := Lib.hid hw3
  clear hf3 hw3
  go_wp2_with fail
  refine (rev_63 _).mono ?_
  rintro e w4 ⟨rfl, rfl⟩
  go_wp2_with fail
  refine (equal_yes _ _ _ 4621819117588971520 0  13835058055282163712 4611686018427387904  13835058055282163712 0  13835058055282163712 13835058055282163712  4621819117588971520 0 13835058055282163712 4611686018427387904 13835058055282163712 0 13835058055282163712 13835058055282163712 ?_ ?_ (by unfold SameC; decide +kernel) (by unfold SameC; decide +kernel) (by unfold SameC; decide +kernel) (by unfold SameC; decide +kernel)).mono ?_
  · exact g2.out.later b3.out (by have := g2.out.1; omega) |>.later (Below.refl _ _) (by have := g2.out.1; have := b3.out.size; omega) |> fun h => by
      refine h.later (B := w3.heap.size) ?_ h.1
      go_grown
  · exact Four.new _ _ _ _ _ _
  rintro e w5 ⟨rfl, n5, hw5⟩
  have b5 : Below w3.heap.size w3 w5 := by rw [hw5]; refine below_drewN ?_ _; go_grown
  have g5 := Lib.hid (g3.out.later b5 g3.out.1)
  have b5' := Lib.hid b5
  clear b5 hw5
  go_wp2_with fail
  refine (four _).mono ?_
  rintro e w6 ⟨rfl, hw6⟩
  have b6 : Below w5.heap.size w5 w6 := by rw [hw6]; go_grown
  have g6 := Lib.hid (g5.out.later b6 g5.out.1)
  have hF6 := Four.new w5 (.complex .f64 4607182418800017408 0) (.complex .f64 4611686018427387904 0) (.complex .f64 4613937818241073152 0) (.complex .f64 4616189618054758400 0) 34
  rw [← hw6] at hF6
  have f6 := Lib.hid hF6
  have b6' := Lib.hid b6
  clear b6 hw6 hF6
  go_wp2_with fail
  refine (equal_yes _ _ _ 4607182418800017408 0 4611686018427387904 0 4613937818241073152 0 4616189618054758400 0 4607182418800017408 0 4611686018427387904 0 4613937818241073152 0 4616189618054758400 0 g6.out f6.out (by unfold SameC; decide +kernel) (by unfold SameC; decide +kernel) (by unfold SameC; decide +kernel) (by unfold SameC; decide +kernel)).mono ?_
  rintro e w7 ⟨rfl, n7, hw7⟩
  have hB : Below w.heap.size w w7 := by
    have s1 := b1'.out.size
    have s2 := b2.out.size
    have s3 := b3.out.size
    have s5 := b5'.out.size
    have s6 := b6'.out.size
    rw [hw7]
    exact below_drewN (((((b1'.out.trans (b2.out.mono (by omega))).trans (b3.out.mono (by omega))).trans (b5'.out.mono (by omega))).trans (b6'.out.mono (by omega)))) _
  have hB' := Lib.hid hB
  clear hB hw7
  go_wp2_with fail
  go_ret
  exact ⟨rfl, hB'.out⟩
theorem rev_same (k j : Nat) (h : k ≤ 12) (hj : (j : Int) < 2 ^ k) : revs k j = (docTo j k).1 ∧ 0 ≤ revs k j ∧ revs k j < 2 ^ k ∧ revs k (revs k j) = j := by
  have hj' : j < 2 ^ k := by exact_mod_cast hj
  obtain ⟨a, b, c, d, _, _⟩ := rev_of k j h hj'
  exact ⟨a, b, c, d⟩
set_option maxHeartbeats 1000000 in
theorem law_yes (j k : Nat) (w : World) (hk : k ≤ 12) (hj : (j : Int) < 2 ^ k) :
    Calls Tryz.prog 3 #[.int .i64 j, .int .i64 k] w fun e w' => e = .returned (.bool true) ∧ Below w.heap.size w w' := by
  obtain ⟨s1, s2, s3, s4⟩ := rev_same k j hk hj
  have hp := pow_le k hk
  obtain ⟨r, hr⟩ := Int.eq_ofNat_of_zero_le s2
  have s3' : (r : Int) < 2 ^ k := by rw [← hr]; exact s3
  have r1 := fun w => reverse_yes j k w hk hj ⟨s2, by omega⟩
  have d1 := fun w => doc_yes j k w hk hj
  have q := (rev_same k r hk s3')
  have r2 := fun w => reverse_yes r k w hk s3' ⟨q.2.1, by have := q.2.2.1; omega⟩
  rw [hr] at r1 s4
  rw [← s1, hr] at d1
  rw [s4] at r2
  have R1 := Lib.hid r1
  have R2 := Lib.hid r2
  have D1 := Lib.hid d1
  clear r1 r2 d1 s1 s2 s3 s4 hr s3' q hp hj hk
  go_enter Tryz.func3, Tryz.ntmps3
  go_wp2_with fail
  refine (awake _).mono ?_
  rintro e w1 ⟨rfl, hw⟩
  have B1 := Lib.hid hw
  clear hw
  go_wp2_with fail
  refine (R1.out _).mono ?_
  rintro e w2 ⟨rfl, rfl⟩
  go_wp2_with fail
  refine (D1.out _).mono ?_
  rintro e w2 ⟨rfl, rfl⟩
  go_wp2_with fail
  refine (R2.out _).mono ?_
  rintro e w2 ⟨rfl, rfl⟩
  go_wp2_with fail
  go_ret
  exact ⟨rfl, B1.out⟩
/-- whatever Reverse answers: it answers, and turns nothing -/
theorem reverse_any (j k : Int) (w : World) : ∃ r e : Int, Calls Tryz.prog 5 #[.int .i64 j, .int .i64 k] w fun en w' => en = .returned (.tuple #[.int .i64 r, .int .i64 e]) ∧ w = w' := by
  by_cases h : k < 0 ∨ 12 < k
  · exact ⟨0, 1, reverse_k j k w h⟩
  · by_cases h' : j < 0
    · exact ⟨0, 1, reverse_j j k w (by omega) (by omega) h'⟩
    · obtain ⟨n, rfl⟩ := Int.eq_ofNat_of_zero_le (show 0 ≤ k by omega)
      obtain ⟨m, rfl⟩ := Int.eq_ofNat_of_zero_le (show 0 ≤ j by omega)
      by_cases h2 : (m : Int) < 2 ^ n
      · have q := rev_same n m (by omega) h2
        have hp := pow_le n (by omega)
        exact ⟨_, 0, reverse_yes m n w (by omega) h2 ⟨q.2.1, by omega⟩⟩
      · exact ⟨0, 1, reverse_far m n w (by omega) h2⟩
set_option maxHeartbeats 1000000 in
theorem law_no (j k : Int) (w : World) (r1 : ∀ w, Calls Tryz.prog 5 #[.int .i64 j, .int .i64 k] w fun e w' => e = .returned (.tuple #[.int .i64 0, .int .i64 1]) ∧ w = w')
    (d1 : ∀ w, Calls Tryz.prog 6 #[.int .i64 j, .int .i64 k] w fun e w' => e = .returned (.tuple #[.int .i64 0, .int .i64 1]) ∧ w = w') :
    Calls Tryz.prog 3 #[.int .i64 j, .int .i64 k] w fun e w' => e = .returned (.bool true) ∧ Below w.heap.size w w' := by
  have R1 := Lib.hid r1
  have D1 := Lib.hid d1
  clear r1 d1
  go_enter Tryz.func3, Tryz.ntmps3
  go_wp2_with fail
  refine (awake _).mono ?_
  rintro e w1 ⟨rfl, hw⟩
  have B1 := Lib.hid hw
  clear hw
  go_wp2_with fail
  refine (R1.out _).mono ?_
  rintro e w2 ⟨rfl, rfl⟩
  go_wp2_with fail
  refine (D1.out _).mono ?_
  rintro e w2 ⟨rfl, rfl⟩
  go_wp2_with fail
  obtain ⟨r, e, h⟩ := reverse_any 0 k w1
  refine h.mono ?_
  rintro en w2 ⟨rfl, rfl⟩
  clear h
  go_wp2_with fail
  all_goals go_ret
  all_goals exact ⟨rfl, B1.out⟩
theorem law (j k : Int) (w : World) : Calls Tryz.prog 3 #[.int .i64 j, .int .i64 k] w fun e w' => e = .returned (.bool true) ∧ Below w.heap.size w w' := by
  by_cases h : k < 0 ∨ 12 < k
  · exact law_no j k w (fun w => reverse_k j k w h) (fun w => doc_k j k w h)
  · by_cases h' : j < 0
    · exact law_no j k w (fun w => reverse_j j k w (by omega) (by omega) h') (fun w => doc_j j k w (by omega) (by omega) h')
    · obtain ⟨n, rfl⟩ := Int.eq_ofNat_of_zero_le (show 0 ≤ k by omega)
      obtain ⟨m, rfl⟩ := Int.eq_ofNat_of_zero_le (show 0 ≤ j by omega)
      by_cases h2 : (m : Int) < 2 ^ n
      · exact law_yes m n w (by omega) h2
      · exact law_no m n w (fun w => reverse_far m n w (by omega) h2) (fun w => doc_far m n w (by omega) h2)
end Go.Proofs.YtmkcnpimlgjbhabGreatFmt
