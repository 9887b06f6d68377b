/- Plain facts on what Fix computes of a float: its product by a power of two, rounded, as a whole number. No program in sight. -/
import Derived.Test.YtpamkblhdgjlcaaGreatDoorM1
import Derived.Test.YtpamkblhdgjlcaaGreatDoorF1
set_option linter.unusedSimpArgs false
set_option linter.unusedVariables false
namespace Go.Proofs.YtpamkblhdgjlcaaGreatDoor
open Ieee

theorem pow_float : ∀ k : Fin 32, double.read (floatOfInt .f64 ((2 : Int) ^ k.val)) = .number false 4503599627370496 ((k.val : Int) - 52) := by decide +kernel
theorem fix_finite (x : Nat) (s : Bool) (m : Nat) (i : Int) (h : double.read x = .number s m i) : floatBits .sub .f64 x x = some 0 := by
  unfold floatBits
  simp only
  show ((double.read x).sum (double.read x).opposite).map double.write = some 0
  rw [h]
  simp only [Datum.opposite, Datum.sum, Option.map_some]
  have e1 : signed s m (i - min i i).toNat + signed (!s) m (i - min i i).toNat = 0 := by
    cases s
    · simp only [signed, Bool.not_false, Bool.false_eq_true, if_false, if_true]; omega
    · simp only [signed, Bool.not_true, Bool.false_eq_true, if_false, if_true]; omega
  rw [e1]
  have e2 : (s && !s) = false := by cases s <;> rfl
  simp only [if_true, e2, Int.natAbs_zero]
  show some (double.nearest false 0 (min i i)) = some 0
  unfold Format.nearest
  rw [if_pos rfl]
  rfl
theorem fix_infinite (x : Nat) (h : ∀ s m i, double.read x ≠ .number s m i) : floatBits .sub .f64 x x = none := by
  unfold floatBits
  simp only
  show ((double.read x).sum (double.read x).opposite).map double.write = none
  cases hd : double.read x with
  | number s m i => exact absurd hd (h s m i)
  | infinity s => cases s <;> rfl
  | nan s f => rfl
/-- the whole number nearest to m * 2^e -/
def near2 (m : Nat) (e : Int) : Nat := rne (m * 2 ^ e.toNat) (2 ^ (-e).toNat)
theorem near2_shift (m : Nat) (e last : Int) (h : last ≤ e) : near2 (m * 2 ^ (e - last).toNat) last = near2 m e := by
  unfold near2
  obtain ⟨d, hd⟩ : ∃ d : Nat, e = last + d := ⟨(e - last).toNat, by omega⟩
  have e1 : (e - last).toNat = d := by omega
  rw [e1, Nat.mul_assoc, ← Nat.pow_add]
  by_cases h1 : 0 ≤ last
  · have e2 : (-last).toNat = 0 := by omega
    have e3 : (-e).toNat = 0 := by omega
    have e4 : d + last.toNat = e.toNat := by omega
    rw [e2, e3, e4]
  · by_cases h2 : 0 ≤ e
    · have e2 : last.toNat = 0 := by omega
      have e3 : (-e).toNat = 0 := by omega
      have e4 : d = e.toNat + (-last).toNat := by omega
      rw [e2, e3, Nat.add_zero, e4, Nat.pow_add, ← Nat.mul_assoc, rne_exact _ _ (Nat.two_pow_pos _), Nat.pow_zero, rne_one]
    · have e2 : last.toNat = 0 := by omega
      have e3 : e.toNat = 0 := by omega
      have e4 : (-last).toNat = (-e).toNat + d := by omega
      rw [e2, e3, Nat.add_zero, e4, Nat.pow_add, Nat.pow_zero, Nat.mul_one, rne_scale _ _ _ (Nat.two_pow_pos d)]
theorem mul_pow2 (x k : Nat) (s : Bool) (m : Nat) (i : Int) (hx : double.read x = .number s m i) (hk : k ≤ 31) (hv : m = 0 ∨ i + m.log2 < 32) :
    ∃ p kept last, floatBits .mul .f64 x (floatOfInt .f64 (2 ^ k)) = some p ∧ double.read p = .number s kept last ∧ kept < 9007199254740992 ∧ near2 kept last = near2 m (i + k) ∧ (kept = 0 ∨ last + kept.log2 < 63) := by
  obtain ⟨hm, hi, hi2, _⟩ := read_bounds x s m i hx
  have hF := pow_float ⟨k, by omega⟩
  simp only at hF
  have hp : floatBits .mul .f64 x (floatOfInt .f64 (2 ^ k)) = some (double.nearest s (m * 4503599627370496) (i + ((k : Int) - 52))) := by
    unfold floatBits
    simp only
    show ((double.read x).product (double.read (floatOfInt .f64 (2 ^ k)))).map double.write = _
    rw [hx, hF]
    simp only [Datum.product, Option.map_some, Bool.xor_false]
    rfl
  by_cases h0 : m = 0
  · subst h0
    refine ⟨_, 0, -1074, hp, ?_, by decide, ?_, .inl rfl⟩
    · unfold Format.nearest
      rw [Nat.zero_mul, if_pos rfl]
      exact read_zero s
    · unfold near2
      rw [Nat.zero_mul, Nat.zero_mul, rne_small _ _ (by have := Nat.two_pow_pos (-(-1074 : Int)).toNat; omega), rne_small _ _ (by have := Nat.two_pow_pos (-(i + (k : Int))).toNat; omega)]
  · have hv : i + m.log2 < 32 := hv.resolve_left h0
    have e52 : (2 : Nat) ^ 52 = 4503599627370496 := by decide
    have hlog : m.log2 ≤ 52 := log2_le_of_lt _ _ h0 (Nat.lt_of_lt_of_eq hm (by decide))
    have hM : m * 4503599627370496 ≠ 0 := Nat.mul_ne_zero h0 (by decide)
    have hL : (m * 4503599627370496).log2 = m.log2 + 52 := by rw [← e52]; exact log2_mul_pow m 52 h0
    obtain ⟨last, hlast⟩ : ∃ last : Int, last = max (i + ((k : Int) - 52) + ((m * 4503599627370496).log2 : Int) - 52) (-1074) := ⟨_, rfl⟩
    have hlast' : last = max (i + (k : Int) + (m.log2 : Int) - 52) (-1074) := by rw [hlast, hL]; omega
    have hle : last ≤ i + k := by omega
    have hw := write_exact s (m * 4503599627370496) (m * 2 ^ (i + (k : Int) - last).toNat) (i + ((k : Int) - 52)) last hM hlast (by
      by_cases hc : last ≤ i + ((k : Int) - 52)
      · refine .inl ⟨(i + ((k : Int) - 52) - last).toNat, by omega, ?_⟩
        have : (i + (k : Int) - last).toNat = 52 + (i + ((k : Int) - 52) - last).toNat := by omega
        rw [this, Nat.pow_add, e52, Nat.mul_assoc]
      · refine .inr ⟨(last - (i + ((k : Int) - 52))).toNat, by omega, ?_⟩
        rw [Nat.mul_assoc, ← Nat.pow_add]
        have : (i + (k : Int) - last).toNat + (last - (i + ((k : Int) - 52))).toNat = 52 := by omega
        rw [this, e52]) (by omega)
    refine ⟨_, _, last, hp, hw.2.1, hw.2.2, near2_shift m (i + k) last hle, .inr ?_⟩
    rw [log2_mul_pow _ _ h0]
    omega
/-- a whole number that a float holds, read back -/
theorem whole_back (s : Bool) (N c j : Nat) (hN : N = c * 2 ^ j) (hc : c < 9007199254740992) (h63 : N < 9223372036854775808) :
    floatToIntVal .f64 (double.nearest s N 0) .i64 = some (if s then -(N : Int) else (N : Int)) := by
  have key : ∃ kept last, double.read (double.nearest s N 0) = .number s kept last ∧ kept * 2 ^ last.toNat / 2 ^ (-last).toNat = N := by
    by_cases h0 : N = 0
    · subst h0
      refine ⟨0, -1074, ?_, by rw [Nat.zero_mul, Nat.zero_div]⟩
      unfold Format.nearest
      rw [if_pos rfl]
      exact read_zero s
    · have hc0 : c ≠ 0 := fun h => h0 (by rw [hN, h, Nat.zero_mul])
      have hlc : c.log2 ≤ 52 := log2_le_of_lt _ _ hc0 (Nat.lt_of_lt_of_eq hc (by decide))
      have hlN : N.log2 = c.log2 + j := by rw [hN]; exact log2_mul_pow c j hc0
      have h62 : N.log2 ≤ 62 := log2_le_of_lt _ _ h0 (Nat.lt_of_lt_of_eq h63 (by decide))
      obtain ⟨last, hlast⟩ : ∃ last : Int, last = max (0 + (N.log2 : Int) - 52) (-1074) := ⟨_, rfl⟩
      by_cases hs : N.log2 ≤ 52
      · have hl : last = (N.log2 : Int) - 52 := by omega
        have hw := write_exact s N (N * 2 ^ (52 - N.log2)) 0 last h0 hlast (.inl ⟨52 - N.log2, by omega, rfl⟩) (by omega)
        refine ⟨_, last, hw.2.1, ?_⟩
        have e1 : last.toNat = 0 := by omega
        have e2 : (-last).toNat = 52 - N.log2 := by omega
        rw [e1, e2, Nat.pow_zero, Nat.mul_one, Nat.mul_div_cancel _ (Nat.two_pow_pos _)]
      · have hl : last = (N.log2 : Int) - 52 := by omega
        have ht : N = c * 2 ^ (j - (N.log2 - 52)) * 2 ^ (N.log2 - 52) := by
          rw [Nat.mul_assoc, ← Nat.pow_add, show j - (N.log2 - 52) + (N.log2 - 52) = j by omega]
          exact hN
        have hw := write_exact s N (c * 2 ^ (j - (N.log2 - 52))) 0 last h0 hlast (.inr ⟨N.log2 - 52, by omega, ht⟩) (by omega)
        refine ⟨_, last, hw.2.1, ?_⟩
        have e1 : last.toNat = N.log2 - 52 := by omega
        have e2 : (-last).toNat = 0 := by omega
        rw [e1, e2, Nat.pow_zero, Nat.div_one]
        exact ht.symm
  obtain ⟨kept, last, hr, hv⟩ := key
  unfold floatToIntVal
  have hd : FloatKind.f64.decode (double.nearest s N 0) = .number s kept last := hr
  rw [hd]
  simp only [Datum.toInt, Datum.integral, cut_zero, Nat.shiftLeft_eq, hv, signed, Nat.pow_zero, Nat.mul_one]
  have e1 : IntKind.min .i64 = -9223372036854775808 := by decide
  have e2 : IntKind.max .i64 = 9223372036854775807 := by decide
  rw [e1, e2]
  cases s
  · simp only [Bool.false_eq_true, if_false]
    rw [if_pos (by omega)]
  · simp only [if_true]
    rw [if_pos (by omega)]
theorem fix_whole (x k : Nat) (s : Bool) (m : Nat) (i : Int) (hx : double.read x = .number s m i) (hk : k ≤ 31) (hv : m = 0 ∨ i + m.log2 < 32) :
    ∃ p q, floatBits .mul .f64 x (floatOfInt .f64 (2 ^ k)) = some p ∧ evenBits p = some q ∧ floatToIntVal .f64 q .i64 = some (if s then -(near2 m (i + k) : Int) else (near2 m (i + k) : Int)) := by
  obtain ⟨p, kept, last, hp, hr, hlt, hn, hlog⟩ := mul_pow2 x k s m i hx hk hv
  have hq : evenBits p = some (double.nearest s (near2 kept last) 0) := by
    unfold evenBits
    have hd : FloatKind.f64.decode p = .number s kept last := hr
    rw [hd]
    simp only [Datum.integral, cut_even, Nat.shiftLeft_eq]
    rfl
  refine ⟨p, _, hp, hq, ?_⟩
  rw [← hn]
  have e63 : (2 : Nat) ^ 63 = 9223372036854775808 := by decide
  by_cases h0 : 0 ≤ last
  · have e1 : near2 kept last = kept * 2 ^ last.toNat := by
      unfold near2
      have : (-last).toNat = 0 := by omega
      rw [this, Nat.pow_zero, rne_one]
    refine whole_back s _ kept last.toNat e1 hlt ?_
    rw [e1, ← e63]
    rcases hlog with h | h
    · rw [h, Nat.zero_mul]; exact Nat.two_pow_pos _
    · have h1 : kept < 2 ^ (kept.log2 + 1) := Nat.lt_log2_self
      have h2 := Nat.mul_lt_mul_of_pos_right h1 (Nat.two_pow_pos last.toNat)
      rw [← Nat.pow_add] at h2
      exact Nat.lt_of_lt_of_le h2 (Nat.pow_le_pow_right (by decide) (by omega))
  · have h1 : near2 kept last ≤ kept := by
      unfold near2 rne
      have e1 : last.toNat = 0 := by omega
      rw [e1, Nat.pow_zero, Nat.mul_one]
      have h2 : 2 ^ 1 ≤ 2 ^ (-last).toNat := Nat.pow_le_pow_right (by decide) (by omega)
      generalize 2 ^ (-last).toNat = g at h2
      have h3 : kept / g ≤ kept / 2 := Nat.div_le_div_left h2 (by decide)
      have h4 : kept % g ≤ kept := Nat.mod_le _ _
      split
      · rename_i hc
        have : 0 < kept := by omega
        omega
      · omega
    exact whole_back s _ (near2 kept last) 0 (by simp) (by omega) (by omega)
/-- is the magnitude of a number at least 2^32? -/
def big32 (m : Nat) (i : Int) : Prop := 4503599627370496 * 2 ^ (-20 - min i (-20)).toNat ≤ m * 2 ^ (i - min i (-20)).toNat
theorem pos_order (x : Nat) (s : Bool) (m : Nat) (i : Int) (hx : double.read x = .number s m i) :
    (FloatKind.f64.format.order x 4751297606875873280 == some .gt || FloatKind.f64.format.order x 4751297606875873280 == some .eq) = true ↔ (s = false ∧ big32 m i) := by
  have hc : double.read 4751297606875873280 = .number false 4503599627370496 (-20) := by decide +kernel
  have ho : FloatKind.f64.format.order x 4751297606875873280 = some (compare (signed s m (i - min i (-20)).toNat) (signed false 4503599627370496 (-20 - min i (-20)).toNat)) := by
    show (double.read x).order (double.read 4751297606875873280) = _
    rw [hx, hc]
    rfl
  rw [ho]
  unfold big32
  simp only [signed, Nat.shiftLeft_eq, Bool.false_eq_true, if_false]
  generalize m * 2 ^ (i - min i (-20)).toNat = a
  have hb : 0 < 4503599627370496 * 2 ^ (-20 - min i (-20)).toNat := Nat.mul_pos (by decide) (Nat.two_pow_pos _)
  generalize 4503599627370496 * 2 ^ (-20 - min i (-20)).toNat = b at hb
  cases s
  · simp only [Bool.false_eq_true, if_false, true_and]
    rcases Int.lt_trichotomy (a : Int) (b : Int) with h | h | h
    · have : compare (a : Int) (b : Int) = .lt := Int.compare_eq_lt.2 h
      rw [this]
      simp; omega
    · have : compare (a : Int) (b : Int) = .eq := Int.compare_eq_eq.2 h
      rw [this]
      simp; omega
    · have : compare (a : Int) (b : Int) = .gt := Int.compare_eq_gt.2 h
      rw [this]
      simp; omega
  · simp only [if_true]
    have : compare (-(a : Int)) (b : Int) = .lt := Int.compare_eq_lt.2 (by omega)
    rw [this]
    simp
theorem neg_order (x : Nat) (s : Bool) (m : Nat) (i : Int) (hx : double.read x = .number s m i) :
    (FloatKind.f64.format.order x 13974669643730649088 == some .lt || FloatKind.f64.format.order x 13974669643730649088 == some .eq) = true ↔ (s = true ∧ big32 m i) := by
  have hc : double.read 13974669643730649088 = .number true 4503599627370496 (-20) := by decide +kernel
  have ho : FloatKind.f64.format.order x 13974669643730649088 = some (compare (signed s m (i - min i (-20)).toNat) (signed true 4503599627370496 (-20 - min i (-20)).toNat)) := by
    show (double.read x).order (double.read 13974669643730649088) = _
    rw [hx, hc]
    rfl
  rw [ho]
  unfold big32
  simp only [signed, Nat.shiftLeft_eq, if_true]
  generalize m * 2 ^ (i - min i (-20)).toNat = a
  have hb : 0 < 4503599627370496 * 2 ^ (-20 - min i (-20)).toNat := Nat.mul_pos (by decide) (Nat.two_pow_pos _)
  generalize 4503599627370496 * 2 ^ (-20 - min i (-20)).toNat = b at hb
  cases s
  · simp only [Bool.false_eq_true, if_false, false_and, iff_false]
    have : compare (a : Int) (-(b : Int)) = .gt := Int.compare_eq_gt.2 (by omega)
    rw [this]
    simp
  · simp only [if_true, true_and]
    rcases Int.lt_trichotomy (-(a : Int)) (-(b : Int)) with h | h | h
    · have : compare (-(a : Int)) (-(b : Int)) = .lt := Int.compare_eq_lt.2 h
      rw [this]
      simp; omega
    · have : compare (-(a : Int)) (-(b : Int)) = .eq := Int.compare_eq_eq.2 h
      rw [this]
      simp; omega
    · have : compare (-(a : Int)) (-(b : Int)) = .gt := Int.compare_eq_gt.2 h
      rw [this]
      simp; omega
theorem big32_not (m : Nat) (i : Int) (h : ¬ big32 m i) : m = 0 ∨ i + m.log2 < 32 := by
  by_cases h0 : m = 0
  · exact .inl h0
  · refine .inr ?_
    unfold big32 at h
    have e52 : (2 : Nat) ^ 52 = 4503599627370496 := by decide
    rw [← e52, ← Nat.pow_add] at h
    have h1 : 2 ^ m.log2 * 2 ^ (i - min i (-20)).toNat ≤ m * 2 ^ (i - min i (-20)).toNat := Nat.mul_le_mul_right _ (Nat.log2_self_le h0)
    rw [← Nat.pow_add] at h1
    have h2 : m.log2 + (i - min i (-20)).toNat < 52 + (-20 - min i (-20)).toNat := by
      rcases Nat.lt_or_ge (m.log2 + (i - min i (-20)).toNat) (52 + (-20 - min i (-20)).toNat) with h3 | h3
      · exact h3
      · have := Nat.pow_le_pow_right (show 0 < 2 by decide) h3
        omega
    omega
theorem big32_near (m : Nat) (i : Int) (k : Nat) (hk : 1 ≤ k) (h : big32 m i) : 4294967296 ≤ near2 m (i + k) := by
  unfold big32 at h
  have e52 : (2 : Nat) ^ 52 = 4503599627370496 := by decide
  have e32 : (2 : Nat) ^ 32 = 4294967296 := by decide
  rw [← e52, ← Nat.pow_add] at h
  rw [← near2_shift m (i + k) (min i (-20)) (by omega)]
  have e1 : (i + (k : Int) - min i (-20)).toNat = (i - min i (-20)).toNat + k := by omega
  rw [e1, Nat.pow_add, ← Nat.mul_assoc]
  have h1 := Nat.mul_le_mul_right (2 ^ k) h
  generalize m * 2 ^ (i - min i (-20)).toNat * 2 ^ k = a at h1 ⊢
  unfold near2 rne
  have e2 : (min i (-20)).toNat = 0 := by omega
  rw [e2, Nat.pow_zero, Nat.mul_one, ← e32]
  have h2 : 2 ^ 32 * 2 ^ (-(min i (-20))).toNat ≤ a := by
    refine Nat.le_trans ?_ h1
    rw [← Nat.pow_add, ← Nat.pow_add]
    exact Nat.pow_le_pow_right (by decide) (by omega)
  have h3 := (Nat.le_div_iff_mul_le (Nat.two_pow_pos (-(min i (-20))).toNat)).2 h2
  exact Nat.le_trans h3 (Nat.le_add_right _ _)
end Go.Proofs.YtpamkblhdgjlcaaGreatDoor
