/- DivN whole; the walk of the reference's GcdN where the second number is a power of two. -/
import Derived.Test.YtpamkblhdgjlcaaGreatDoorProg
import Derived.Test.YtpamkblhdgjlcaaGreatDoorBase
import Derived.Test.YtpamkblhdgjlcaaGreatDoorR11
import Derived.WalkKit
import Derived.WalkSpells
import Derived.WalkLawsBesides
import Derived.Handy
import Derived.Deep.QuietTactic
import Derived.Deep.OwnRows
import Derived.BigQuiet
set_option linter.unusedSimpArgs false
set_option linter.unusedVariables false
namespace Go.Proofs.YtpamkblhdgjlcaaGreatDoor
open Go.RowKit

theorem div_num (v u : Value) (a b : Nat) (w : World) (hv : Num w v a) (hu : Num w u b) (hla : nd a ≤ 137438953472) (hb : b ≠ 0) :
    Calls Tryz.prog 55 #[v, u] w fun e w' => ∃ x y, e = .returned (.tuple #[x, y]) ∧ Num w' x (a / b) ∧ Num w' y (a % b) ∧ Only [] w w' := by
  by_cases h : a < b
  · exact div_less v u a b w hv hu (by omega) h
  · by_cases h1 : nd b = 1
    · exact div_one v u a b w hv hu (by omega) (by omega) h1
    · exact div_long v u a b w hv hu hla (by omega) hb h1
theorem nd_one : nd 1 = 1 := rfl
theorem nd_ne {x : Nat} (h : x ≠ 0) : ¬ nd x = 0 := by have := nd_pos h; omega
/-- every number but 0 is odd times a power of two -/
theorem odd_part : ∀ n : Nat, n ≠ 0 → ∃ o t, n = o * 2 ^ t ∧ o % 2 = 1 := by
  intro n
  induction n using Nat.strongRecOn with
  | _ n ih =>
    intro h
    by_cases h1 : n % 2 = 1
    · exact ⟨n, 0, by rw [Nat.pow_zero, Nat.mul_one], h1⟩
    · obtain ⟨o, t, he, ho⟩ := ih (n / 2) (by omega) (by omega)
      exact ⟨o, t + 1, by rw [Nat.pow_succ, ← Nat.mul_assoc, ← he]; omega, ho⟩
theorem nd_pow {k : Nat} : nd (2 ^ k) ≤ k + 1 := by
  rw [nd_le, P_two]
  exact Nat.pow_lt_pow_right (by decide) (by omega)
theorem twos_le {o t : Nat} (ho : o % 2 = 1) : t < 32 * nd (o * 2 ^ t) := by
  have h := lt_P (o * 2 ^ t)
  rw [P_two] at h
  rw [← Nat.pow_lt_pow_iff_right (a := 2) (by decide)]
  exact Nat.lt_of_le_of_lt (Nat.le_mul_of_pos_left _ (by omega)) h
set_option maxRecDepth 8000 in
set_option maxHeartbeats 4000000 in
theorem gcd_two (v u : Value) (o t k : Nat) (w : World) (ho : o % 2 = 1) (hv : Num w v (o * 2 ^ t)) (hu : Num w u (2 ^ k)) (hla : nd (o * 2 ^ t) ≤ 1000000) (hk : k ≤ 1000000) :
    Calls Tryz.prog 61 #[v, u] w fun e w' => ∃ x, e = .returned x ∧ Num w' x (2 ^ min t k) ∧ Only [] w w' := by
  obtain ⟨A, c, rfl, hc, hA, hr⟩ := hv
  obtain ⟨A', c', rfl, hc', hA', hr'⟩ := hu
  have htl : t < 32 * nd (o * 2 ^ t) := twos_le ho
  have h2k : nd (2 ^ k) ≤ 1000001 := Nat.le_trans nd_pow (by omega)
  have hn1 : 0 < nd (o * 2 ^ t) := nd_pos (Nat.mul_ne_zero (by omega) (by have := Nat.pow_pos (n := t) (show 0 < 2 by decide); omega))
  have hn2 : 0 < nd (2 ^ k) := nd_pos (by have := Nat.pow_pos (n := k) (show 0 < 2 by decide); omega)
  have hla' := lt_P (o * 2 ^ t)
  have hlb' := lt_P (2 ^ k)
  have hT1 : ∀ w', Only [] w w' → Calls Tryz.prog 88 #[.slice A (nd (o * 2 ^ t)) c] w' fun e w'' => e = .returned (.int .i64 (t : Int)) ∧ w' = w'' := fun w' h => twosN_ A _ c o t w' ho hla' (by omega) (hr.frame h)
  have hT2 : ∀ w', Only [] w w' → Calls Tryz.prog 88 #[.slice A' (nd (2 ^ k)) c'] w' fun e w'' => e = .returned (.int .i64 (k : Int)) ∧ w' = w'' := fun w' h => twosN_ A' _ c' 1 k w' (by decide) (by rw [Nat.one_mul]; exact hlb') (by omega) (by rw [Nat.one_mul]; exact hr'.frame h)
  have hS1 : ∀ w', Only [] w w' → Calls Tryz.prog 89 #[.slice A (nd (o * 2 ^ t)) c, .int .i64 (t : Int)] w' fun e w'' => ∃ x, e = .returned x ∧ Num w'' x o ∧ Only [] w' w'' := fun w' h => by
    have := shrN_ A _ c (o * 2 ^ t) t w' hla' hc (by omega) (by omega) (hr.frame h)
    rwa [Nat.mul_div_cancel _ (Nat.pow_pos (by decide))] at this
  have hS2 : ∀ w', Only [] w w' → Calls Tryz.prog 89 #[.slice A' (nd (2 ^ k)) c', .int .i64 (k : Int)] w' fun e w'' => ∃ x, e = .returned x ∧ Num w'' x 1 ∧ Only [] w' w'' := fun w' h => by
    have := shrN_ A' _ c' (2 ^ k) k w' hlb' hc' (by omega) (by omega) (hr'.frame h)
    rwa [Nat.div_self (Nat.pow_pos (by decide))] at this
  have HT1 := Lib.hid hT1
  have HT2 := Lib.hid hT2
  have HS1 := Lib.hid hS1
  have HS2 := Lib.hid hS2
  have hM1 : 2 ^ min t k = 1 * 2 ^ min t k := (Nat.one_mul _).symm
  rw [hM1]
  have hmb : min t k ≤ 32000000 := by omega
  generalize hl1 : nd (o * 2 ^ t) = l1 at *
  generalize hl2 : nd (2 ^ k) = l2 at *
  have hz1 : ((l1 : Int) == 0) = false := by simp; omega
  have hz2 : ((l2 : Int) == 0) = false := by simp; omega
  have hc1 : cmpNat 1 1 = 0 := rfl
  have HC1 := Lib.hid hc1
  clear hT1 hT2 hS1 hS2 hr hr' hA hA' hc hc' hla' hlb' hl1 hl2 htl h2k hM1 ho hc1
  have HO0 := Lib.hid (Only.refl [] w)
  by_cases hmn : t ≤ k
  · skip
    have hme : min t k = t := by omega
    rw [hme] at hmb ⊢
    have hmn' : (t : Int) ≤ (k : Int) := by omega
    clear hme
    go_enter Tryz.func61, Tryz.ntmps61
    go_wp2_with first
      | (have hq := HX2; clear hq; fail)
      | (have hq := HX1; clear hq; go_at_call 88; with_reducible (refine (HT2.out _ HO1.out).mono ?_); rintro e w' ⟨rfl, rfl⟩)
      | (go_at_call 88; with_reducible (refine (HT1.out w HO0.out).mono ?_); rintro e w' ⟨rfl, rfl⟩)
      | (go_at_call 88; with_reducible (refine (HT2.out w HO0.out).mono ?_); rintro e w' ⟨rfl, rfl⟩)
      | (have hq := HX1; clear hq; go_at_call 89; refine (HS2.out w1 HO1.out).mono ?_; rintro e w2 ⟨x2, rfl, h1, ho⟩; have HX2 := Lib.hid h1; have HO2 := Lib.hid (HO1.out.trans ho); clear ho; obtain ⟨A2, c2, rfl, h2a, h2b, h2c⟩ := h1; rw [nd_one]; rw [nd_one] at HX2; clear h2a h2b h2c)
      | (go_at_call 89; refine (HS1.out w HO0.out).mono ?_; rintro e w1 ⟨x1, rfl, h1, ho⟩; have HX1 := Lib.hid h1; have HO1 := Lib.hid ho; clear h1 ho)
    refine wp_loop_rounds 1 ?_
    rw [rounds_succ]
    go_wp2_with first
      | (go_at_call 38; refine (word_ 1 (by decide) _).mono ?_; rintro e w3 ⟨x3, rfl, h1, ho⟩; have HX3 := Lib.hid h1; have HO3 := Lib.hid (HO2.out.trans ho); have HX4 := Lib.hid (HX2.out.frame ho); clear h1 ho)
      | (go_at_call 57; refine (cmp_ _ _ 1 1 _ HX4.out HX3.out (by decide)).mono ?_; rintro e w4 ⟨rfl, ho⟩; rw [HC1.out]; have HO4 := Lib.hid (HO3.out.trans ho); have HX5 := Lib.hid (HX4.out.frame ho); clear ho)
      | (go_at_call 37; refine (shl_num _ 1 t _ HX5.out (by decide) (by omega)).mono ?_; rintro e w5 ⟨x, rfl, h1, ho⟩; have HX6 := Lib.hid h1; have HO5 := Lib.hid (HO4.out.trans ho); clear h1 ho)
    go_ret
    exact ⟨_, rfl, OwnD.num HX6.out, HO5.out⟩
  · skip
    have hme : min t k = k := by omega
    rw [hme] at hmb ⊢
    have hmn' : ¬ (t : Int) ≤ (k : Int) := by omega
    clear hme
    go_enter Tryz.func61, Tryz.ntmps61
    go_wp2_with first
      | (have hq := HX2; clear hq; fail)
      | (have hq := HX1; clear hq; go_at_call 88; with_reducible (refine (HT2.out _ HO1.out).mono ?_); rintro e w' ⟨rfl, rfl⟩)
      | (go_at_call 88; with_reducible (refine (HT1.out w HO0.out).mono ?_); rintro e w' ⟨rfl, rfl⟩)
      | (go_at_call 88; with_reducible (refine (HT2.out w HO0.out).mono ?_); rintro e w' ⟨rfl, rfl⟩)
      | (have hq := HX1; clear hq; go_at_call 89; refine (HS2.out w1 HO1.out).mono ?_; rintro e w2 ⟨x2, rfl, h1, ho⟩; have HX2 := Lib.hid h1; have HO2 := Lib.hid (HO1.out.trans ho); clear ho; obtain ⟨A2, c2, rfl, h2a, h2b, h2c⟩ := h1; rw [nd_one]; rw [nd_one] at HX2; clear h2a h2b h2c)
      | (go_at_call 89; refine (HS1.out w HO0.out).mono ?_; rintro e w1 ⟨x1, rfl, h1, ho⟩; have HX1 := Lib.hid h1; have HO1 := Lib.hid ho; clear h1 ho)
    refine wp_loop_rounds 1 ?_
    rw [rounds_succ]
    go_wp2_with first
      | (go_at_call 38; refine (word_ 1 (by decide) _).mono ?_; rintro e w3 ⟨x3, rfl, h1, ho⟩; have HX3 := Lib.hid h1; have HO3 := Lib.hid (HO2.out.trans ho); have HX4 := Lib.hid (HX2.out.frame ho); clear h1 ho)
      | (go_at_call 57; refine (cmp_ _ _ 1 1 _ HX4.out HX3.out (by decide)).mono ?_; rintro e w4 ⟨rfl, ho⟩; rw [HC1.out]; have HO4 := Lib.hid (HO3.out.trans ho); have HX5 := Lib.hid (HX4.out.frame ho); clear ho)
      | (go_at_call 37; refine (shl_num _ 1 k _ HX5.out (by decide) (by omega)).mono ?_; rintro e w5 ⟨x, rfl, h1, ho⟩; have HX6 := Lib.hid h1; have HO5 := Lib.hid (HO4.out.trans ho); clear h1 ho)
    go_ret
    exact ⟨_, rfl, OwnD.num HX6.out, HO5.out⟩
end Go.Proofs.YtpamkblhdgjlcaaGreatDoor
