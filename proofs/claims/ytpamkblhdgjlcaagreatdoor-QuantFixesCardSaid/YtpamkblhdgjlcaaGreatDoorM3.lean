/- Plain facts on what Back computes of a whole number: the nearest float, and its quotient by a power of two. No program in sight. -/
import Derived.Test.YtpamkblhdgjlcaaGreatDoorM1
import Derived.Test.YtpamkblhdgjlcaaGreatDoorM2
set_option linter.unusedSimpArgs false
set_option linter.unusedVariables false
namespace Go.Proofs.YtpamkblhdgjlcaaGreatDoor
open Ieee

/-- the word of A / 2^k rounded to 53 digits (A not 0) -/
def backWord (s : Bool) (A k : Nat) : Nat := double.word s (((A.log2 : Int) - 52 - k + 1074).toNat * 4503599627370496 + near2 A (52 - A.log2))
theorem digits53 (A : Nat) (h0 : A ≠ 0) : 4503599627370496 ≤ near2 A (52 - A.log2) ∧ near2 A (52 - A.log2) ≤ 9007199254740992 := by
  have hlt : A < 2 ^ (A.log2 + 1) := Nat.lt_log2_self
  have hle : 2 ^ A.log2 ≤ A := Nat.log2_self_le h0
  have e53 : (2 : Nat) ^ 53 = 9007199254740992 := by decide
  have e52 : (2 : Nat) ^ 52 = 4503599627370496 := by decide
  unfold near2
  by_cases h : A.log2 ≤ 52
  · have e1 : ((52 : Int) - A.log2).toNat = 52 - A.log2 := by omega
    have e2 : (-((52 : Int) - A.log2)).toNat = 0 := by omega
    rw [e1, e2, Nat.pow_zero, rne_one]
    have h1 := Nat.mul_le_mul_right (2 ^ (52 - A.log2)) hle
    have h2 := Nat.mul_lt_mul_of_pos_right hlt (Nat.two_pow_pos (52 - A.log2))
    rw [← Nat.pow_add] at h1 h2
    rw [show A.log2 + (52 - A.log2) = 52 by omega] at h1
    rw [show A.log2 + 1 + (52 - A.log2) = 53 by omega] at h2
    omega
  · have e1 : ((52 : Int) - A.log2).toNat = 0 := by omega
    have e2 : (-((52 : Int) - A.log2)).toNat = A.log2 - 52 := by omega
    rw [e1, e2, Nat.pow_zero, Nat.mul_one]
    have hg : 0 < 2 ^ (A.log2 - 52) := Nat.two_pow_pos _
    have h1 : 4503599627370496 * 2 ^ (A.log2 - 52) ≤ A := by
      rw [← e52, ← Nat.pow_add, show 52 + (A.log2 - 52) = A.log2 by omega]; exact hle
    have h2 : A < 9007199254740992 * 2 ^ (A.log2 - 52) := by
      rw [← e53, ← Nat.pow_add, show 53 + (A.log2 - 52) = A.log2 + 1 by omega]; exact hlt
    have h3 := (Nat.le_div_iff_mul_le hg).2 h1
    have h4 := (Nat.div_lt_iff_lt_mul hg).2 h2
    unfold rne
    split <;> omega
theorem step53 (E : Nat) : (E + 1) * 4503599627370496 + 4503599627370496 = E * 4503599627370496 + 9007199254740992 := by omega
theorem float_of (s : Bool) (A : Nat) (h0 : A ≠ 0) (h63 : A ≤ 9223372036854775808) :
    ∃ m i, double.read (double.nearest s A 0) = .number s m i ∧ 4503599627370496 ≤ m ∧ m < 9007199254740992 ∧ -52 ≤ i ∧ i ≤ 12 ∧
      ∀ k : Nat, k ≤ 31 → double.word s ((i - k + 1074).toNat * 4503599627370496 + m) = backWord s A k := by
  have hlog : A.log2 ≤ 63 := log2_le_of_lt _ _ h0 (Nat.lt_of_le_of_lt h63 (by decide))
  obtain ⟨hd1, hd2⟩ := digits53 A h0
  have hw : double.nearest s A 0 = double.word s (((A.log2 : Int) - 52 + 1074).toNat * 4503599627370496 + near2 A (52 - A.log2)) := by
    unfold Format.nearest
    rw [if_neg h0]
    simp only [d_frac, d_least, d_binade, d_inf]
    have e1 : max ((0 : Int) + (A.log2 : Int) - ((52 : Nat) : Int)) (-1074) = (A.log2 : Int) - 52 := by omega
    rw [e1, cut_even, Nat.shiftLeft_eq]
    have e2 : ((A.log2 : Int) - 52 - -1074).toNat = ((A.log2 : Int) - 52 + 1074).toNat := by congr 1
    have e3 : rne (A * 2 ^ ((0 : Int) - ((A.log2 : Int) - 52)).toNat) (2 ^ ((A.log2 : Int) - 52 - 0).toNat) = near2 A (52 - A.log2) := by
      unfold near2
      congr 3 <;> omega
    rw [e2, e3, Nat.min_eq_left]
    have h9 : ((A.log2 : Int) - 52 + 1074).toNat ≤ 1085 := by omega
    clear e1 e2 e3
    generalize ((A.log2 : Int) - 52 + 1074).toNat = E at h9 ⊢
    generalize near2 A (52 - A.log2) = K at hd2 ⊢
    clear hd1 hlog h63 h0
    omega
  have hE : ((A.log2 : Int) - 52 + 1074).toNat ≤ 1085 := by omega
  by_cases h53 : near2 A (52 - A.log2) = 9007199254740992
  · refine ⟨4503599627370496, (A.log2 : Int) - 51, ?_, by omega, by omega, by omega, by omega, ?_⟩
    · rw [hw, h53]
      have e1 : ((A.log2 : Int) - 52 + 1074).toNat * 4503599627370496 + 9007199254740992 = (((A.log2 : Int) - 52 + 1074).toNat + 1) * 4503599627370496 + 4503599627370496 := by omega
      rw [e1, read_kept s 4503599627370496 _ (by decide) (fun _ => Nat.le_refl _) (by omega)]
      congr 1
      omega
    · intro k hk
      unfold backWord
      rw [h53]
      have h9 : ((A.log2 : Int) - 51 - k + 1074).toNat = ((A.log2 : Int) - 52 - k + 1074).toNat + 1 := by
        clear hw h53 hd1 hd2
        omega
      rw [h9, step53]
  · refine ⟨near2 A (52 - A.log2), (A.log2 : Int) - 52, ?_, hd1, by omega, by omega, by omega, fun k hk => rfl⟩
    rw [hw, read_kept s _ _ (by omega) (fun _ => hd1) (by omega)]
    congr 1
    omega
theorem back_quo (n : Int) (k : Nat) (hk : k ≤ 31) (h1 : -9223372036854775808 ≤ n) (h2 : n ≤ 9223372036854775807) :
    floatBits .quo .f64 (floatOfInt .f64 n) (floatOfInt .f64 (2 ^ k)) = some (if n = 0 then 0 else backWord (decide (n < 0)) n.natAbs k) := by
  have hF := pow_float ⟨k, by omega⟩
  simp only at hF
  have hy : floatOfInt .f64 n = double.nearest (decide (n < 0)) n.natAbs 0 := rfl
  unfold floatBits
  simp only
  show ((double.read (floatOfInt .f64 n)).quotient 54 (double.read (floatOfInt .f64 (2 ^ k)))).map double.write = _
  rw [hF, hy]
  by_cases h0 : n = 0
  · subst h0
    have : double.read (double.nearest (decide ((0 : Int) < 0)) (Int.natAbs 0) 0) = .number false 0 (-1074) := by decide +kernel
    rw [this]
    simp only [Datum.quotient, if_true]
    rw [if_neg (by decide)]
    simp only [Nat.zero_shiftLeft, Nat.zero_div, Nat.zero_mod, Option.map_some]
    show some (double.nearest _ 0 _) = some 0
    unfold Format.nearest
    rw [if_pos rfl]
    rfl
  · rw [if_neg h0]
    obtain ⟨m, i, hr, hm1, hm2, hi1, hi2, hb⟩ := float_of (decide (n < 0)) n.natAbs (by omega) (by omega)
    rw [hr]
    have hlog : m.log2 = 52 := by
      have a1 : m.log2 ≤ 52 := log2_le_of_lt _ _ (by omega) (Nat.lt_of_lt_of_eq hm2 (by decide))
      have a2 : 52 ≤ m.log2 := (Nat.le_log2 (by omega)).2 (Nat.le_trans (by decide) hm1)
      omega
    have hlog2 : Nat.log2 4503599627370496 = 52 := by decide +kernel
    simp only [Datum.quotient]
    rw [if_neg (by decide)]
    simp only [hlog, hlog2, Nat.shiftLeft_eq, Option.map_some, Bool.xor_false]
    have e1 : m * 2 ^ (54 + 52 - 52) = (m * 4) * 4503599627370496 := by
      have : (2 : Nat) ^ (54 + 52 - 52) = 4 * 4503599627370496 := by decide
      rw [this, Nat.mul_assoc]
    rw [e1, Nat.mul_div_cancel _ (by decide), Nat.mul_mod_left]
    show some (double.nearest _ (2 * (m * 4) + 0) _) = _
    have e2 : 2 * (m * 4) + 0 = m * 2 ^ 3 := by omega
    rw [e2]
    have hl3 : (m * 2 ^ 3).log2 = 55 := by rw [log2_mul_pow m 3 (by omega), hlog]
    have hw := write_exact (decide (n < 0)) (m * 2 ^ 3) m (i - ((k : Int) - 52) - ((54 + 52 - 52 : Nat) : Int) - 1) (i - k) (by omega) (by rw [hl3]; omega) (.inr ⟨3, by omega, rfl⟩) (by omega)
    rw [hw.1, hb k hk]
end Go.Proofs.YtpamkblhdgjlcaaGreatDoor
