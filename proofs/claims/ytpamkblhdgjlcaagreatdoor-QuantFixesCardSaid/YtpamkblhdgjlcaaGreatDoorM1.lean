/- Plain facts on binary floating point: rounding to a whole number, and words that hold a number exactly. No program in sight. -/
import Derived.Laws.FloatArith
set_option linter.unusedSimpArgs false
set_option linter.unusedVariables false
namespace Go.Proofs.YtpamkblhdgjlcaaGreatDoor
open Ieee

/-- n / g as a whole number: the nearest, and between two the even one -/
def rne (n g : Nat) : Nat := n / g + if g < 2 * (n % g) ∨ (g = 2 * (n % g) ∧ n / g % 2 = 1) then 1 else 0
theorem rne_bool (n g : Nat) : n / g + (decide (g < 2 * (n % g)) || (g == 2 * (n % g) && n / g % 2 == 1)).toNat = rne n g := by
  unfold rne
  generalize n / g = q
  generalize n % g = r
  by_cases h1 : g < 2 * r <;> by_cases h2 : g = 2 * r <;> by_cases h3 : q % 2 = 1 <;> simp [h1, h2, h3]
theorem rne_one (n : Nat) : rne n 1 = n := by
  unfold rne
  simp [Nat.mod_one]
theorem rne_scale (n g t : Nat) (ht : 0 < t) : rne (n * t) (g * t) = rne n g := by
  unfold rne
  rw [Nat.mul_div_mul_right _ _ ht, Nat.mul_mod_mul_right]
  have e1 : g * t < 2 * (n % g * t) ↔ g < 2 * (n % g) := by
    rw [← Nat.mul_assoc]
    exact Nat.mul_lt_mul_right ht
  have e2 : g * t = 2 * (n % g * t) ↔ g = 2 * (n % g) := by
    rw [← Nat.mul_assoc]
    exact ⟨fun h => Nat.eq_of_mul_eq_mul_right ht h, fun h => by rw [← h]⟩
  simp only [e1, e2]
theorem rne_small (n g : Nat) (h : 2 * n < g) : rne n g = 0 := by
  unfold rne
  have h1 : n < g := by omega
  rw [Nat.div_eq_of_lt h1, Nat.mod_eq_of_lt h1, if_neg (by omega)]
theorem rne_exact (n g : Nat) (hg : 0 < g) : rne (n * g) g = n := by
  have := rne_scale n 1 g hg
  rw [Nat.one_mul] at this
  rw [this, rne_one]
theorem cut_even (neg : Bool) (n drop : Nat) : Toward.even.cut neg n drop = rne n (2 ^ drop) := by
  unfold Toward.cut
  simp only [Nat.one_shiftLeft]
  by_cases h : drop ≤ n.log2 + 2
  · rw [Nat.min_eq_left h]
    exact rne_bool n (2 ^ drop)
  · rw [Nat.min_eq_right (by omega)]
    have h1 : n < 2 ^ (n.log2 + 1) := Nat.lt_log2_self
    have h2 : 2 ^ (n.log2 + 2) = 2 * 2 ^ (n.log2 + 1) := by rw [Nat.pow_succ]; omega
    have h3 : 2 ^ (n.log2 + 2) ≤ 2 ^ drop := Nat.pow_le_pow_right (by decide) (by omega)
    rw [rne_small n (2 ^ drop) (by omega)]
    exact (rne_bool n (2 ^ (n.log2 + 2))).trans (rne_small n _ (by omega))
theorem cut_zero (neg : Bool) (n drop : Nat) : Toward.zero.cut neg n drop = n / 2 ^ drop := by
  unfold Toward.cut
  simp only [Nat.one_shiftLeft, Bool.toNat_false, Nat.add_zero]
  by_cases h : drop ≤ n.log2 + 2
  · rw [Nat.min_eq_left h]
  · rw [Nat.min_eq_right (by omega)]
    have h1 : n < 2 ^ (n.log2 + 1) := Nat.lt_log2_self
    have h2 : 2 ^ (n.log2 + 2) = 2 * 2 ^ (n.log2 + 1) := by rw [Nat.pow_succ]; omega
    have h3 : 2 ^ (n.log2 + 2) ≤ 2 ^ drop := Nat.pow_le_pow_right (by decide) (by omega)
    rw [Nat.div_eq_of_lt (by omega), Nat.div_eq_of_lt (by omega)]

theorem d_least : double.leastPlace = -1074 := by decide +kernel
theorem d_binade : double.binade = 4503599627370496 := by decide +kernel
theorem d_inf : double.infRung = 9218868437227405312 := by decide +kernel
theorem d_sign : double.signWeight = 9223372036854775808 := by decide +kernel
theorem d_frac : double.fractionBits = 52 := rfl

theorem read_word (s : Bool) (r : Nat) (hr : r < 9218868437227405312) :
    double.read (double.word s r) = if r < 4503599627370496 then .number s r (-1074) else .number s (4503599627370496 + r % 4503599627370496) (-1074 + (r / 4503599627370496 - 1 : Nat)) := by
  unfold Format.read Format.word
  rw [d_least, d_binade, d_inf, d_sign]
  have h1 : ((if s = true then 9223372036854775808 + r else r) / 9223372036854775808 % 2 == 1) = s := by
    cases s
    · simp only [Bool.false_eq_true, if_false]
      rw [Nat.div_eq_of_lt (by omega)]; rfl
    · simp only [if_true]
      have : (9223372036854775808 + r) / 9223372036854775808 = 1 := by omega
      rw [this]; rfl
  have h2 : (if s = true then 9223372036854775808 + r else r) % 9223372036854775808 = r := by
    cases s
    · simp only [Bool.false_eq_true, if_false]; omega
    · simp only [if_true]; omega
  simp only [h1, h2]
  by_cases h : r < 4503599627370496
  · rw [if_pos h, if_pos h]
  · rw [if_neg h, if_neg h, if_pos hr]
/-- the word at E binades above the least, with kept digits -/
theorem read_kept (s : Bool) (kept E : Nat) (h1 : kept < 9007199254740992) (h2 : 0 < E → 4503599627370496 ≤ kept) (h3 : E * 4503599627370496 + kept < 9218868437227405312) :
    double.read (double.word s (E * 4503599627370496 + kept)) = .number s kept (-1074 + (E : Int)) := by
  rw [read_word s _ h3]
  by_cases h0 : E = 0
  · subst h0
    by_cases h : kept < 4503599627370496
    · rw [if_pos (by omega)]; simp
    · rw [if_neg (by omega)]
      have e1 : 4503599627370496 + (0 * 4503599627370496 + kept) % 4503599627370496 = kept := by omega
      have e2 : (0 * 4503599627370496 + kept) / 4503599627370496 - 1 = 0 := by omega
      rw [e1, e2]
  · have h2' := h2 (by omega)
    rw [if_neg (by omega)]
    have e1 : 4503599627370496 + (E * 4503599627370496 + kept) % 4503599627370496 = kept := by omega
    have e2 : (E * 4503599627370496 + kept) / 4503599627370496 - 1 = E := by omega
    rw [e1, e2]
theorem read_zero (s : Bool) : double.read (double.word s 0) = .number s 0 (-1074) := by
  have := read_kept s 0 0 (by decide) (fun h => absurd h (by decide)) (by decide)
  simpa using this

theorem log2_le_of_lt (m j : Nat) (h0 : m ≠ 0) (h : m < 2 ^ (j + 1)) : m.log2 ≤ j := by
  have := (Nat.log2_lt h0).2 h
  omega
theorem log2_mul_pow (m j : Nat) (h0 : m ≠ 0) : (m * 2 ^ j).log2 = m.log2 + j := by
  have h1 : 2 ^ m.log2 ≤ m := Nat.log2_self_le h0
  have h2 : m < 2 ^ (m.log2 + 1) := Nat.lt_log2_self
  have hp : 0 < 2 ^ j := Nat.two_pow_pos j
  have h4 : m * 2 ^ j ≠ 0 := Nat.mul_ne_zero h0 (by omega)
  have h5 : 2 ^ (m.log2 + j) ≤ m * 2 ^ j := by rw [Nat.pow_add]; exact Nat.mul_le_mul_right _ h1
  have h6 : m * 2 ^ j < 2 ^ (m.log2 + j + 1) := by
    have : m.log2 + j + 1 = (m.log2 + 1) + j := by omega
    rw [this, Nat.pow_add]
    exact Nat.mul_lt_mul_of_pos_right h2 hp
  have h7 := log2_le_of_lt _ _ h4 h6
  have h8 : m.log2 + j ≤ (m * 2 ^ j).log2 := (Nat.le_log2 h4).2 h5
  omega

/-- a number that the format has is written exactly -/
theorem write_exact (s : Bool) (M kept : Nat) (P last : Int) (hM : M ≠ 0) (hlast : last = max (P + M.log2 - 52) (-1074))
    (hk : (∃ a : Nat, P = last + a ∧ kept = M * 2 ^ a) ∨ (∃ t : Nat, last = P + t ∧ M = kept * 2 ^ t)) (hov : last ≤ 971) :
    double.nearest s M P = double.word s ((last + 1074).toNat * 4503599627370496 + kept) ∧ double.read (double.nearest s M P) = .number s kept last ∧ kept < 9007199254740992 := by
  have hge : -1074 ≤ last := by omega
  have hkept : Toward.even.cut s (M <<< (P - last).toNat) (last - P).toNat = kept := by
    rw [cut_even, Nat.shiftLeft_eq]
    rcases hk with ⟨a, hP, hk⟩ | ⟨t, hl, hk⟩
    · have e1 : (P - last).toNat = a := by omega
      have e2 : (last - P).toNat = 0 := by omega
      rw [e1, e2, Nat.pow_zero, rne_one, hk]
    · have e1 : (P - last).toNat = 0 := by omega
      have e2 : (last - P).toNat = t := by omega
      rw [e1, e2, Nat.pow_zero, Nat.mul_one, hk, rne_exact _ _ (Nat.two_pow_pos t)]
  have hlt : M < 2 ^ (M.log2 + 1) := Nat.lt_log2_self
  have hle : 2 ^ M.log2 ≤ M := Nat.log2_self_le hM
  have e53 : (2 : Nat) ^ 53 = 9007199254740992 := by decide
  have e52 : (2 : Nat) ^ 52 = 4503599627370496 := by decide
  have b1 : kept < 9007199254740992 := by
    rw [← e53]
    rcases hk with ⟨a, hP, hk⟩ | ⟨t, hl, hk⟩
    · have h1 : kept < 2 ^ (M.log2 + 1) * 2 ^ a := by rw [hk]; exact Nat.mul_lt_mul_of_pos_right hlt (Nat.two_pow_pos a)
      rw [← Nat.pow_add] at h1
      exact Nat.lt_of_lt_of_le h1 (Nat.pow_le_pow_right (by decide) (by omega))
    · by_cases ht : t ≤ M.log2
      · have h1 : kept * 2 ^ t < 2 ^ (M.log2 + 1 - t) * 2 ^ t := by
          rw [← Nat.pow_add, ← hk, show M.log2 + 1 - t + t = M.log2 + 1 by omega]; exact hlt
        have h2 := Nat.lt_of_mul_lt_mul_right h1
        exact Nat.lt_of_lt_of_le h2 (Nat.pow_le_pow_right (by decide) (by omega))
      · have h1 : 2 ^ (M.log2 + 1) ≤ 2 ^ t := Nat.pow_le_pow_right (by decide) (by omega)
        have h2 : kept = 0 := by
          rcases Nat.eq_zero_or_pos kept with h | h
          · exact h
          · have : 2 ^ t ≤ kept * 2 ^ t := Nat.le_mul_of_pos_left _ h
            omega
        rw [h2]; exact Nat.two_pow_pos _
  have b2 : 0 < (last + 1074).toNat → 4503599627370496 ≤ kept := by
    intro hE
    have hl2 : last = P + M.log2 - 52 := by
      clear hk
      omega
    rw [← e52]
    rcases hk with ⟨a, hP, hk⟩ | ⟨t, hl, hk⟩
    · rw [hk]
      have h1 : 2 ^ M.log2 * 2 ^ a ≤ M * 2 ^ a := Nat.mul_le_mul_right _ hle
      rw [← Nat.pow_add] at h1
      exact Nat.le_trans (Nat.pow_le_pow_right (by decide) (by omega)) h1
    · have h1 : 2 ^ 52 * 2 ^ t ≤ kept * 2 ^ t := by
        rw [← Nat.pow_add, ← hk, show 52 + t = M.log2 by omega]; exact hle
      exact Nat.le_of_mul_le_mul_right h1 (Nat.two_pow_pos t)
  have b3 : (last + 1074).toNat * 4503599627370496 + kept < 9218868437227405312 := by
    have : (last + 1074).toNat ≤ 2045 := by omega
    have := Nat.mul_le_mul_right 4503599627370496 this
    omega
  have hw : double.nearest s M P = double.word s ((last + 1074).toNat * 4503599627370496 + kept) := by
    unfold Format.nearest
    rw [if_neg hM]
    simp only [d_frac, d_least, d_binade, d_inf]
    have e1 : max (P + (M.log2 : Int) - ((52 : Nat) : Int)) (-1074) = last := hlast.symm
    rw [e1, hkept]
    have e2 : (last - -1074).toNat = (last + 1074).toNat := by congr 1
    rw [e2, Nat.min_eq_left (by omega)]
  refine ⟨hw, ?_, b1⟩
  rw [hw, read_kept s kept _ b1 b2 b3]
  congr 1
  omega
theorem read_bounds (x : Nat) (s : Bool) (m : Nat) (i : Int) (h : double.read x = .number s m i) : m < 9007199254740992 ∧ -1074 ≤ i ∧ i ≤ 971 ∧ (m < 4503599627370496 → i = -1074) := by
  unfold Format.read at h
  rw [d_least, d_binade, d_inf, d_sign] at h
  simp only at h
  split at h
  · rename_i h1
    cases h
    exact ⟨by omega, by omega, by omega, fun _ => rfl⟩
  · split at h
    · rename_i h1 h2
      cases h
      have : x % 9223372036854775808 / 4503599627370496 ≤ 2046 := by omega
      exact ⟨by omega, by omega, by omega, fun h => by omega⟩
    · split at h <;> cases h
end Go.Proofs.YtpamkblhdgjlcaaGreatDoor
