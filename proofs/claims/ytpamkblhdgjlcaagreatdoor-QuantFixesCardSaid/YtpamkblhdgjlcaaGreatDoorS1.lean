/- Plain laws: what the reference's Round computes is the nearest whole number, ties to the even one. No program in sight. -/
import Derived.Test.YtpamkblhdgjlcaaGreatDoorM1
import Derived.Test.YtpamkblhdgjlcaaGreatDoorM2
set_option linter.unusedSimpArgs false
set_option linter.unusedVariables false
namespace Go.Proofs.YtpamkblhdgjlcaaGreatDoor

/-- the floor of z / g + 1 / 2 -/
def halfUp (z : Int) (g : Nat) : Int := (z * 2 + g) / (g * 2)
theorem floor_is {N d q : Int} (hd : 0 < d) (h1 : q * d ≤ N) (h2 : N < q * d + d) : N / d = q := by
  have e : N = (N - q * d) + q * d := by omega
  rw [e, Int.add_mul_ediv_right _ _ (by omega), Int.ediv_eq_zero_of_lt (by omega) (by omega), Int.zero_add]
theorem half_pos (a g : Nat) (hg : 0 < g) : halfUp a g = ((a / g + if g ≤ 2 * (a % g) then 1 else 0 : Nat) : Int) := by
  unfold halfUp
  have h1 := Nat.div_add_mod a g
  have h2 := Nat.mod_lt a hg
  generalize a / g = q at *
  generalize a % g = r at *
  have e1 : (a : Int) = (g : Int) * (q : Int) + (r : Int) := by rw [← h1, Int.natCast_add, Int.natCast_mul]
  rw [e1]
  refine floor_is (by omega) ?_ ?_
  · split
    · have : ((q + 1 : Nat) : Int) * ((g : Int) * 2) = 2 * ((g : Int) * (q : Int)) + 2 * g := by
        rw [Int.natCast_add, Int.add_mul, Int.mul_comm (q : Int), Int.mul_assoc (g : Int), Int.mul_comm 2 (q : Int), ← Int.mul_assoc]
        simp
        omega
      rw [this]
      generalize (g : Int) * (q : Int) = p
      omega
    · have : ((q + 0 : Nat) : Int) * ((g : Int) * 2) = 2 * ((g : Int) * (q : Int)) := by
        rw [Nat.add_zero, Int.mul_comm (q : Int), Int.mul_assoc (g : Int), Int.mul_comm 2 (q : Int), ← Int.mul_assoc]
        omega
      rw [this]
      generalize (g : Int) * (q : Int) = p
      omega
  · split
    · have : ((q + 1 : Nat) : Int) * ((g : Int) * 2) = 2 * ((g : Int) * (q : Int)) + 2 * g := by
        rw [Int.natCast_add, Int.add_mul, Int.mul_comm (q : Int), Int.mul_assoc (g : Int), Int.mul_comm 2 (q : Int), ← Int.mul_assoc]
        simp
        omega
      rw [this]
      generalize (g : Int) * (q : Int) = p
      omega
    · have : ((q + 0 : Nat) : Int) * ((g : Int) * 2) = 2 * ((g : Int) * (q : Int)) := by
        rw [Nat.add_zero, Int.mul_comm (q : Int), Int.mul_assoc (g : Int), Int.mul_comm 2 (q : Int), ← Int.mul_assoc]
        omega
      rw [this]
      generalize (g : Int) * (q : Int) = p
      omega
theorem half_neg (a g : Nat) (hg : 0 < g) : halfUp (-(a : Int)) g = -((a / g + if g < 2 * (a % g) then 1 else 0 : Nat) : Int) := by
  unfold halfUp
  have h1 := Nat.div_add_mod a g
  have h2 := Nat.mod_lt a hg
  generalize a / g = q at *
  generalize a % g = r at *
  have e1 : (a : Int) = (g : Int) * (q : Int) + (r : Int) := by rw [← h1, Int.natCast_add, Int.natCast_mul]
  have p1 : -((q + 1 : Nat) : Int) * ((g : Int) * 2) = -(2 * ((g : Int) * (q : Int))) - 2 * g := by
    rw [Int.neg_mul, Int.natCast_add, Int.add_mul, Int.mul_comm (q : Int), Int.mul_assoc (g : Int), Int.mul_comm 2 (q : Int), ← Int.mul_assoc]
    simp
    omega
  have p0 : -((q + 0 : Nat) : Int) * ((g : Int) * 2) = -(2 * ((g : Int) * (q : Int))) := by
    rw [Int.neg_mul, Nat.add_zero, Int.mul_comm (q : Int), Int.mul_assoc (g : Int), Int.mul_comm 2 (q : Int), ← Int.mul_assoc]
    omega
  rw [e1]
  refine floor_is (by omega) ?_ ?_
  · split
    · rw [p1]
      generalize (g : Int) * (q : Int) = p
      omega
    · rw [p0]
      generalize (g : Int) * (q : Int) = p
      omega
  · split
    · rw [p1]
      generalize (g : Int) * (q : Int) = p
      omega
    · rw [p0]
      generalize (g : Int) * (q : Int) = p
      omega
/-- what Round takes before it keeps it within -/
def roundI (z : Int) (g : Nat) : Int := if (halfUp z g * g + -z) * 2 = g ∧ (halfUp z g).natAbs % 2 = 1 then halfUp z g - 1 else halfUp z g
theorem round_pos (a g : Nat) (hg : 0 < g) : roundI a g = (rne a g : Int) := by
  unfold roundI
  rw [half_pos a g hg]
  unfold rne
  have h1 := Nat.div_add_mod a g
  have h2 := Nat.mod_lt a hg
  generalize a / g = q at *
  generalize a % g = r at *
  have e1 : (a : Int) = (g : Int) * (q : Int) + (r : Int) := by rw [← h1, Int.natCast_add, Int.natCast_mul]
  have p1 : ((q + 1 : Nat) : Int) * (g : Int) = (g : Int) * (q : Int) + g := by
    rw [Int.natCast_add, Int.add_mul, Int.mul_comm (q : Int)]; simp
  have p0 : ((q + 0 : Nat) : Int) * (g : Int) = (g : Int) * (q : Int) := by
    rw [Nat.add_zero, Int.mul_comm (q : Int)]
  rw [e1]
  by_cases c : g ≤ 2 * r
  · rw [if_pos c, p1]
    generalize (g : Int) * (q : Int) = p
    by_cases t : g = 2 * r
    · by_cases o : q % 2 = 1
      · rw [if_neg (by omega), if_pos (by omega)]
      · rw [if_pos (by omega), if_neg (by omega)]; omega
    · rw [if_neg (by omega), if_pos (by omega)]
  · rw [if_neg c, p0]
    generalize (g : Int) * (q : Int) = p
    rw [if_neg (by omega), if_neg (by omega)]
theorem round_neg (a g : Nat) (hg : 0 < g) : roundI (-(a : Int)) g = -(rne a g : Int) := by
  unfold roundI
  rw [half_neg a g hg]
  unfold rne
  have h1 := Nat.div_add_mod a g
  have h2 := Nat.mod_lt a hg
  generalize a / g = q at *
  generalize a % g = r at *
  have e1 : (a : Int) = (g : Int) * (q : Int) + (r : Int) := by rw [← h1, Int.natCast_add, Int.natCast_mul]
  have p1 : -((q + 1 : Nat) : Int) * (g : Int) = -((g : Int) * (q : Int)) - g := by
    rw [Int.neg_mul, Int.natCast_add, Int.add_mul, Int.mul_comm (q : Int)]; simp; omega
  have p0 : -((q + 0 : Nat) : Int) * (g : Int) = -((g : Int) * (q : Int)) := by
    rw [Int.neg_mul, Nat.add_zero, Int.mul_comm (q : Int)]
  rw [e1]
  by_cases c : g < 2 * r
  · rw [if_pos c, p1]
    generalize (g : Int) * (q : Int) = p
    rw [if_neg (by omega), if_pos (by omega)]
  · rw [if_neg c, p0]
    generalize (g : Int) * (q : Int) = p
    by_cases t : g = 2 * r
    · by_cases o : q % 2 = 1
      · rw [if_pos (by omega), if_pos (by omega)]; omega
      · rw [if_neg (by omega), if_neg (by omega)]
    · rw [if_neg (by omega), if_neg (by omega)]
end Go.Proofs.YtpamkblhdgjlcaaGreatDoor
