/- Rational numbers whose denominators are powers of two; the walk of the reference's Lay. -/
import Derived.Test.YtpamkblhdgjlcaaGreatDoorProg
import Derived.Test.YtpamkblhdgjlcaaGreatDoorBase
import Derived.Test.YtpamkblhdgjlcaaGreatDoorR12
import Derived.WalkKit
import Derived.WalkSpells
import Derived.WalkLawsBesides
import Derived.Handy
import Derived.Deep.QuietTactic
import Derived.Deep.OwnRows
import Derived.BigQuiet
set_option linter.unusedSimpArgs false
set_option linter.unusedVariables false
namespace Go.Proofs.YtpamkblhdgjlcaaGreatDoor
open Go.RowKit

/-- v is the rational number z / 2 ^ k -/
def RatAt (w : World) (v : Value) (z : Int) (k : Nat) : Prop := ∃ n d N m, v = .agg #[.bool (decide (z < 0)), n, d] ∧ Num w n N ∧ Num w d (2 ^ (k - m)) ∧ m ≤ k ∧ z.natAbs = N * 2 ^ m
theorem RatAt.frame {w w' : World} {v : Value} {z : Int} {k : Nat} (h : RatAt w v z k) (ho : Only [] w w') : RatAt w' v z k := by
  obtain ⟨n, d, N, m, hv, hn, hd, hm, hz⟩ := h
  exact ⟨n, d, N, m, hv, hn.frame ho, hd.frame ho, hm, hz⟩
theorem RatAt.more {w : World} {v : Value} {z : Int} {k : Nat} (h : RatAt w v z k) (j : Nat) : RatAt w v (z * 2 ^ j) (k + j) := by
  obtain ⟨n, d, N, m, hv, hn, hd, hm, hz⟩ := h
  have hp : (0 : Int) < 2 ^ j := Int.pow_pos (by decide)
  refine ⟨n, d, N, m + j, ?_, hn, by rw [Nat.add_sub_add_right]; exact hd, by omega, ?_⟩
  · rw [hv]
    have : decide (z * 2 ^ j < 0) = decide (z < 0) := by
      by_cases h0 : z < 0
      · rw [decide_eq_true h0, decide_eq_true (Int.mul_neg_of_neg_of_pos h0 hp)]
      · rw [decide_eq_false h0, decide_eq_false (by have := Int.mul_nonneg (show 0 ≤ z by omega) (Int.le_of_lt hp); omega)]
    rw [this]
  · rw [Int.natAbs_mul, hz, Int.natAbs_pow, Nat.pow_add, Nat.mul_assoc]
    rfl
/-- the whole number with that sign -/
def signed (neg : Bool) (n : Nat) : Int := if neg then -(n : Int) else n
theorem signed_abs (neg : Bool) (n : Nat) : (signed neg n).natAbs = n := by
  unfold signed
  cases neg <;> simp
theorem signed_neg (neg : Bool) (n : Nat) (h : n ≠ 0) : decide (signed neg n < 0) = neg := by
  unfold signed
  cases neg
  · simp
  · simp
    omega
theorem signed_zero (neg : Bool) : signed neg 0 = 0 := by
  unfold signed
  cases neg <;> simp
/-- a number's digits do not lie in a block that holds a rational number -/
theorem Num.past {w : World} {v : Value} {x b : Nat} {p : Bool} {A1 A2 : Option Addr} {l1 c1 l2 c2 : Nat} {T : TypeId} (h : Num w v x) (hb : w.heap[b]? = some (.cells #[.bool p, .slice A1 l1 c1, .slice A2 l2 c2] T (0, 0))) {w' : World} (ho : Only [b] w w') : Num w' v x := by
  obtain ⟨A, c, hv, hc, hA, hr⟩ := h
  refine ⟨A, c, hv, hc, hA, ?_⟩
  rcases hr with h0 | ⟨b', o, hA', hr⟩
  · exact .inl h0
  · by_cases h0 : nd x = 0
    · exact .inl h0
    · have hr' : Row w A (nd x) x := .inr ⟨b', o, hA', hr⟩
      refine hr'.off ho (fun a ha => ?_)
      rw [hA'] at ha
      cases ha
      simp only [List.mem_cons, List.not_mem_nil, or_false]
      rintro rfl
      have h1 := hr 0 (by omega)
      simp only [World.cell?, hb, Nat.add_zero] at h1
      match o, h1 with
      | 0, h1 => simp at h1
      | 1, h1 => simp at h1
      | 2, h1 => simp at h1
      | n + 3, h1 => simp at h1
theorem only_three {w w1 : World} {b : Nat} (h : Only [] w w1) (hb : w.heap.size ≤ b) (v0 v1 v2 : Value) : Only [] w (((w1.setCell ⟨b, 0, none⟩ v0).setCell ⟨b, 1, none⟩ v1).setCell ⟨b, 2, none⟩ v2) :=
  ((h.setCell (.inr hb) v0).setCell (.inr hb) v1).setCell (.inr hb) v2
theorem three_only (w1 : World) (b : Nat) (v0 v1 v2 : Value) : Only [b] w1 (((w1.setCell ⟨b, 0, none⟩ v0).setCell ⟨b, 1, none⟩ v1).setCell ⟨b, 2, none⟩ v2) :=
  (((Only.refl [b] w1).setCell (.inl (by simp)) v0).setCell (.inl (by simp)) v1).setCell (.inl (by simp)) v2
set_option maxRecDepth 8000 in
set_option maxHeartbeats 4000000 in
theorem lay_zero (neg : Bool) (v u : Value) (k : Nat) (w : World) (hv : Num w v 0) :
    Calls Tryz.prog 35 #[.bool neg, v, u] w fun e w' => ∃ x, e = .returned x ∧ RatAt w' x 0 k ∧ Only [] w w' := by
  obtain ⟨A, c, rfl, hc, hA, hr⟩ := hv
  rw [nd_zero]
  clear hr hc hA
  go_enter Tryz.func35, Tryz.ntmps35
  go_wp2_with (go_at_call 38; refine (word_ 1 (by decide) _).mono ?_; rintro e w1 ⟨x, rfl, h1, ho⟩; have HX := Lib.hid h1; obtain ⟨Ax, cx, rfl, h1a, h1b, h1c⟩ := h1; clear h1a h1b h1c; have HO := Lib.hid ho; have hrb := ho.at (block_new _ _) (by simp); have r0 := cell_of hrb 0 rfl; have r1 := cell_of hrb 1 rfl; have r2 := cell_of hrb 2 rfl; have f0 := free_of hrb 0; have f1 := free_of hrb 1; have f2 := free_of hrb 2; have HRB := Lib.hid hrb; clear ho hrb)
  refine bodyPost_ret (v := .agg #[.bool false, .slice none 0 0, .slice Ax (nd 1) cx]) (by simp [results, Tryz.results35, go_sem, r0, r1, r2]) rfl ⟨_, rfl, ?_, only_three (((Only.refl [] w).alloc _).trans HO.out) (Nat.le_refl _) _ _ _⟩
  refine ⟨_, _, 0, k, rfl, Num.zero _, ?_, Nat.le_refl _, by simp⟩
  rw [Nat.sub_self, Nat.pow_zero]
  exact HX.out.past HRB.out (three_only _ _ _ _ _)
theorem cmp_pow (m : Nat) : decide ((0 : Int) < cmpNat (2 ^ m) 1) = decide (m ≠ 0) := by
  rw [cmpn_one]
  by_cases h : m = 0
  · subst h; rfl
  · rw [decide_eq_true h, decide_eq_true]
    have := Nat.pow_lt_pow_right (a := 2) (by decide) (show 0 < m by omega)
    rwa [Nat.pow_zero] at this
set_option maxRecDepth 8000 in
set_option maxHeartbeats 4000000 in
theorem lay_some (neg : Bool) (v u : Value) (n k : Nat) (w : World) (hv : Num w v n) (hu : Num w u (2 ^ k)) (h0 : n ≠ 0) (hn : nd n ≤ 1000000) (hk : k ≤ 1000000) :
    Calls Tryz.prog 35 #[.bool neg, v, u] w fun e w' => ∃ x, e = .returned x ∧ RatAt w' x (signed neg n) k ∧ Only [] w w' := by
  obtain ⟨o, t, rfl, ho⟩ := odd_part n h0
  have HV := Lib.hid hv
  have HU := Lib.hid hu
  have HN := Lib.hid hn
  have HS := Lib.hid (signed_neg neg _ h0)
  obtain ⟨m, hm⟩ : ∃ m, m = min t k := ⟨_, rfl⟩
  have HG := Lib.hid (fun w' (h : Only [] w w') => gcd_two v u o t k w' ho (hv.frame h) (hu.frame h) hn hk)
  have hpm : 0 < 2 ^ m := Nat.pow_pos (by decide)
  have hq1 : o * 2 ^ t / 2 ^ m = o * 2 ^ (t - m) := by
    rw [show t = t - m + m by omega, Nat.pow_add, ← Nat.mul_assoc, Nat.mul_div_cancel _ hpm, Nat.add_sub_cancel]
  have hq2 : 2 ^ k / 2 ^ m = 2 ^ (k - m) := Nat.pow_div (by omega) (by decide)
  have hndk : nd (2 ^ k) ≤ 1000001 := Nat.le_trans nd_pow (by omega)
  have HND := Lib.hid hndk
  have HP := Lib.hid (show 2 ^ m ≠ 0 by omega)
  rw [← hm] at HG
  have HFIN := Lib.hid (show m ≤ k ∧ (signed neg (o * 2 ^ t)).natAbs = o * 2 ^ (t - m) * 2 ^ m by
    rw [signed_abs, Nat.mul_assoc, ← Nat.pow_add, Nat.sub_add_cancel (by omega)]
    exact ⟨by omega, rfl⟩)
  have HQ1 := Lib.hid hq1
  have HQ2 := Lib.hid hq2
  have hl0 : ¬ nd (o * 2 ^ t) = 0 := nd_ne h0
  obtain ⟨A, c, rfl, hc, hA, hr⟩ := hv
  obtain ⟨A', c', rfl, hc', hA', hr'⟩ := hu
  generalize hZ : signed neg (o * 2 ^ t) = Z at *
  generalize hX : o * 2 ^ t = X at *
  generalize hl : nd X = l at *
  have hlf : ((l : Int) == 0) = false := by simp; omega
  have HL := Lib.hid hl
  clear hr hr' hc hc' hA hA' hq1 hq2 hpm ho h0 hl hX hZ hndk hn
  have hm6 : m ≤ 1000000 := by omega
  by_cases hm0 : m = 0
  · have hcv : cmpNat (2 ^ m) 1 = 0 := by rw [hm0]; rfl
    have HCV := Lib.hid hcv
    have HM0 := Lib.hid hm0
    clear hm0 hcv hm
    go_enter Tryz.func35, Tryz.ntmps35
    go_wp2_with first
      | (go_at_call 61; refine (HG.out _ ((Only.refl [] w).alloc _)).mono ?_; rintro e w1 ⟨g, rfl, h1, ho⟩; have HX := Lib.hid h1; have HO1 := Lib.hid ho; have HO := Lib.hid (((Only.refl [] w).alloc _).trans ho); clear ho h1)
      | (go_at_call 38; refine (word_ 1 (by decide) _).mono ?_; rintro e w2 ⟨y, rfl, h1, ho⟩; have HY := Lib.hid h1; have HO2 := Lib.hid ho; clear ho h1)
      | (go_at_call 57; refine (cmp_ g y (2 ^ m) 1 _ (HX.out.frame HO2.out) HY.out (Nat.le_trans nd_pow (by omega))).mono ?_; rintro e w3 ⟨rfl, ho⟩; rw [HCV.out]; have HO3 := Lib.hid (HO2.out.trans ho); clear ho; have hrb := (HO1.out.trans HO3.out).at (block_new _ _) (by simp); have r0 := cell_of hrb 0 rfl; have r1 := cell_of hrb 1 rfl; have r2 := cell_of hrb 2 rfl; have f0 := free_of hrb 0; have f1 := free_of hrb 1; have f2 := free_of hrb 2; have HRB := Lib.hid hrb; clear hrb)
    refine bodyPost_ret (v := .agg #[.bool neg, .slice A l c, .slice A' (nd (2 ^ k)) c']) (by simp [results, Tryz.results35, go_sem, r0, r1, r2]) rfl ⟨_, rfl, ?_, only_three (HO.out.trans HO3.out) (Nat.le_refl _) _ _ _⟩
    have hF := HFIN.out
    have hQ := HQ1.out
    rw [HM0.out] at hF hQ
    rw [Nat.pow_zero, Nat.div_one] at hQ
    refine ⟨_, _, X, 0, by rw [HS.out], ((HV.out.frame HO.out).frame HO3.out).past HRB.out (three_only _ _ _ _ _), ((HU.out.frame HO.out).frame HO3.out).past HRB.out (three_only _ _ _ _ _), Nat.zero_le _, ?_⟩
    rw [hF.2, ← hQ]
  · have hcv : cmpNat (2 ^ m) 1 = 1 := by
      unfold cmpNat
      have := Nat.pow_lt_pow_right (a := 2) (by decide) (show 0 < m by omega)
      rw [Nat.pow_zero] at this
      rw [if_neg (by omega), if_pos this]
    have HCV := Lib.hid hcv
    clear hm0 hcv hm
    go_enter Tryz.func35, Tryz.ntmps35
    go_wp2_with first
      | (go_at_call 61; refine (HG.out _ ((Only.refl [] w).alloc _)).mono ?_; rintro e w1 ⟨g, rfl, h1, ho⟩; have HX := Lib.hid h1; have HO1 := Lib.hid ho; have HO := Lib.hid (((Only.refl [] w).alloc _).trans ho); clear ho h1)
      | (go_at_call 38; refine (word_ 1 (by decide) _).mono ?_; rintro e w2 ⟨y, rfl, h1, ho⟩; have HY := Lib.hid h1; have HO2 := Lib.hid ho; clear ho h1)
      | (go_at_call 57; refine (cmp_ g y (2 ^ m) 1 _ (HX.out.frame HO2.out) HY.out (Nat.le_trans nd_pow (by omega))).mono ?_; rintro e w3 ⟨rfl, ho⟩; rw [HCV.out]; have HO3 := Lib.hid (HO2.out.trans ho); clear ho)
      | (have hq := HX1; clear hq; go_at_call 55; refine (div_num _ g (2 ^ k) (2 ^ m) _ (((HU.out.frame HO.out).frame HO3.out).frame HO4.out) ((HX.out.frame HO3.out).frame HO4.out) (by have := HND.out; omega) HP.out).mono ?_; rintro e w5 ⟨x2, y2, rfl, h1, h2, ho⟩; rw [HQ2.out] at h1; have HX2 := Lib.hid h1; have HO5 := Lib.hid ho; obtain ⟨A2, c2, rfl, h1a, h1b, h1c⟩ := h1; have hrb := (((HO1.out.trans HO3.out).trans HO4.out).trans HO5.out).at (block_new _ _) (by simp); have r0 := cell_of hrb 0 rfl; have r1 := cell_of hrb 1 rfl; have r2 := cell_of hrb 2 rfl; have f0 := free_of hrb 0; have f1 := free_of hrb 1; have f2 := free_of hrb 2; have HRB := Lib.hid hrb; clear hrb; clear h1a h1b h1c h2 ho)
      | (go_at_call 55; refine (div_num _ g X (2 ^ m) _ ((HV.out.frame HO.out).frame HO3.out) (HX.out.frame HO3.out) (by rw [HL.out]; have := HN.out; omega) HP.out).mono ?_; rintro e w4 ⟨x1, y1, rfl, h1, h2, ho⟩; rw [HQ1.out] at h1; have HX1 := Lib.hid h1; have HO4 := Lib.hid ho; obtain ⟨A1, c1, rfl, h1a, h1b, h1c⟩ := h1; clear h1a h1b h1c h2 ho)
    refine bodyPost_ret (v := .agg #[.bool neg, .slice A1 (nd (o * 2 ^ (t - m))) c1, .slice A2 (nd (2 ^ (k - m))) c2]) (by simp [results, Tryz.results35, go_sem, r0, r1, r2]) rfl ⟨_, rfl, ?_, only_three (((HO.out.trans HO3.out).trans HO4.out).trans HO5.out) (Nat.le_refl _) _ _ _⟩
    refine ⟨_, _, o * 2 ^ (t - m), m, by rw [HS.out], (HX1.out.frame HO5.out).past HRB.out (three_only _ _ _ _ _), HX2.out.past HRB.out (three_only _ _ _ _ _), HFIN.out.1, HFIN.out.2⟩
theorem lay_ (neg : Bool) (v u : Value) (n k : Nat) (w : World) (hv : Num w v n) (hu : Num w u (2 ^ k)) (hn : nd n ≤ 1000000) (hk : k ≤ 1000000) :
    Calls Tryz.prog 35 #[.bool neg, v, u] w fun e w' => ∃ x, e = .returned x ∧ RatAt w' x (signed neg n) k ∧ Only [] w w' := by
  by_cases h : n = 0
  · subst h
    rw [signed_zero]
    exact lay_zero neg v u k w hv
  · exact lay_some neg v u n k w hv hu h hn hk
end Go.Proofs.YtpamkblhdgjlcaaGreatDoor
