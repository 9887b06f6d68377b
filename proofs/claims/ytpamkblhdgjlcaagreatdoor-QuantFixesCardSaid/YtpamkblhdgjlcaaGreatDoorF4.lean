/- Fix at every float, and Back at every number, by value. -/
import Derived.Test.YtpamkblhdgjlcaaGreatDoorProg
import Derived.Test.YtpamkblhdgjlcaaGreatDoorBase
import Derived.Test.YtpamkblhdgjlcaaGreatDoorQ1
import Derived.Test.YtpamkblhdgjlcaaGreatDoorF1
import Derived.Test.YtpamkblhdgjlcaaGreatDoorF2
import Derived.Test.YtpamkblhdgjlcaaGreatDoorM1
import Derived.Test.YtpamkblhdgjlcaaGreatDoorM2
import Derived.Test.YtpamkblhdgjlcaaGreatDoorM3
set_option linter.unusedSimpArgs false
set_option linter.unusedVariables false
namespace Go.Proofs.YtpamkblhdgjlcaaGreatDoor
open Go.RowKit Ieee

/-- the whole number nearest to a number times 2^k -/
def fixI (s : Bool) (m : Nat) (i : Int) (k : Nat) : Int := if s then -(near2 m (i + k) : Int) else (near2 m (i + k) : Int)
theorem fix_num (x k : Nat) (s : Bool) (m : Nat) (i : Int) (hx : double.read x = .number s m i) (h1 : 1 ≤ k) (h2 : k ≤ 31) (w : World) :
    Calls Tryz.prog 6 #[.float .f64 x, .int .i64 k] w fun e w' => e = .returned (.tuple #[.int .i64 (keptI (fixI s m i k)), .bool (keptI (fixI s m i k) != fixI s m i k), .int .i64 0]) ∧ w = w' := by
  have hf := fix_finite x s m i hx
  by_cases hb : big32 m i
  · have hn := big32_near m i k h1 hb
    unfold fixI
    cases s
    · have hA := (pos_order x false m i hx).2 ⟨rfl, hb⟩
      have e1 : keptI (if false = true then -(near2 m (i + k) : Int) else (near2 m (i + k) : Int)) = 2147483647 := by
        simp only [Bool.false_eq_true, if_false]
        unfold keptI
        rw [if_neg (by omega), if_pos (by omega)]
      have e2 : ((2147483647 : Int) != (if false = true then -(near2 m (i + k) : Int) else (near2 m (i + k) : Int))) = true := by
        simp only [Bool.false_eq_true, if_false, bne_iff_ne, ne_eq]
        omega
      rw [e1, e2]
      exact fix_high x k w (by omega) (by omega) hf hA
    · have hA : (FloatKind.f64.format.order x 4751297606875873280 == some .gt || FloatKind.f64.format.order x 4751297606875873280 == some .eq) = false := by
        rw [Bool.eq_false_iff]
        intro h
        exact absurd ((pos_order x true m i hx).1 h).1 (by decide)
      have hB := (neg_order x true m i hx).2 ⟨rfl, hb⟩
      have e1 : keptI (if true = true then -(near2 m (i + k) : Int) else (near2 m (i + k) : Int)) = -2147483648 := by
        simp only [if_true]
        unfold keptI
        rw [if_pos (by omega)]
      have e2 : ((-2147483648 : Int) != (if true = true then -(near2 m (i + k) : Int) else (near2 m (i + k) : Int))) = true := by
        simp only [if_true, bne_iff_ne, ne_eq]
        omega
      rw [e1, e2]
      exact fix_low x k w (by omega) (by omega) hf hA hB
  · have hA : (FloatKind.f64.format.order x 4751297606875873280 == some .gt || FloatKind.f64.format.order x 4751297606875873280 == some .eq) = false := by
      rw [Bool.eq_false_iff]
      intro h
      exact hb ((pos_order x s m i hx).1 h).2
    have hB : (FloatKind.f64.format.order x 13974669643730649088 == some .lt || FloatKind.f64.format.order x 13974669643730649088 == some .eq) = false := by
      rw [Bool.eq_false_iff]
      intro h
      exact hb ((neg_order x s m i hx).1 h).2
    obtain ⟨p, q, hp, hq, hn⟩ := fix_whole x k s m i hx h2 (big32_not m i hb)
    exact fix_mid x k p q _ w h1 h2 hf hA hB hp hq hn
/-- what Back answers -/
def backBits (n : Int) (k : Nat) : Nat := if n = 0 then 0 else backWord (decide (n < 0)) n.natAbs k
theorem back_num (n : Int) (k : Nat) (h1 : 1 ≤ k) (h2 : k ≤ 31) (hn1 : -9223372036854775808 ≤ n) (hn2 : n ≤ 9223372036854775807) (w : World) :
    Calls Tryz.prog 8 #[.int .i64 n, .int .i64 k] w fun e w' => e = .returned (.tuple #[.float .f64 (backBits n k), .int .i64 0]) ∧ w = w' :=
  back_any n k _ w h1 h2 (back_quo n k h2 hn1 hn2)
end Go.Proofs.YtpamkblhdgjlcaaGreatDoor
