/- The walks of the reference's shr, TwosN, ShrN. -/
import Derived.Test.YtpamkblhdgjlcaaGreatDoorProg
import Derived.Test.YtpamkblhdgjlcaaGreatDoorBase
import Derived.Test.YtpamkblhdgjlcaaGreatDoorR6
import Derived.WalkKit
import Derived.WalkSpells
import Derived.WalkLawsBesides
import Derived.Handy
import Derived.Deep.QuietTactic
import Derived.Deep.OwnRows
import Derived.BigQuiet
set_option linter.unusedSimpArgs false
set_option linter.unusedVariables false
namespace Go.Proofs.YtpamkblhdgjlcaaGreatDoor
open Go.RowKit

theorem dg_shr (a k s : Nat) (hs : s < 32) : dg (a / 2 ^ s) k = (dg a k + dg a (k + 1) * 4294967296) / 2 ^ s % 4294967296 := by
  have h1 := div_step a k
  have h2 := div_step a (k + 1)
  have e : a / 2 ^ s / P k = a / P k / 2 ^ s := by rw [Nat.div_div_eq_div_mul, Nat.div_div_eq_div_mul, Nat.mul_comm]
  unfold dg at h1 h2 ⊢
  rw [e]
  generalize a / P (k + 1 + 1) = hi at *
  generalize a / P k % 4294967296 = d0 at *
  generalize a / P (k + 1) % 4294967296 = d1 at *
  rw [h1, h2]
  have e2 : 2 ^ s * (4294967296 * 2 ^ (32 - s)) = 18446744073709551616 := by
    rw [Nat.mul_left_comm, ← Nat.pow_add, show s + (32 - s) = 32 by omega]
  have e3 : (hi * 4294967296 + d1) * 4294967296 + d0 = (d0 + d1 * 4294967296) + 2 ^ s * (4294967296 * 2 ^ (32 - s) * hi) := by
    rw [← Nat.mul_assoc, e2]
    omega
  rw [e3, Nat.add_mul_div_left _ _ (Nat.pow_pos (by decide)), Nat.mul_assoc, Nat.add_mul_mod_self_left]
set_option maxRecDepth 8000 in
set_option maxHeartbeats 4000000 in
theorem shr_ (A : Option Addr) (la c a n : Nat) (w : World) (ha : a < P la) (hla : la ≤ 1099511627776) (hn : n < 32) (hra : Row w A la a) :
    Calls Tryz.prog 86 #[.slice A la c, .int .i64 (n : Int)] w fun e w' => ∃ v, e = .returned v ∧ Num w' v (a / 2 ^ n) ∧ Only [] w w' := by
  have hmk := make_row la (by omega)
  have HRA := Lib.hid hra
  have HA := Lib.hid ha
  clear hra ha
  go_enter Tryz.func86, Tryz.ntmps86
  go_wp2_with fail
  go_loopw [6] (fun i wr => ∃ k : Nat, k ≤ la ∧ i = .int .i64 (k : Int) ∧ RowD wr w.heap.size la (a / 2 ^ n % P k) ∧ Below w.heap.size w wr) (fun i _ => la - (intOf i).toNat)
  case atStart => exact ⟨0, Nat.zero_le _, rfl, by rw [P_zero, Nat.mod_one]; exact RowD.made w la, (below_me w).alloc (Nat.le_refl _) _⟩
  case round =>
    obtain ⟨k, hk, rfl, hown, hbel⟩ := hrel
    have HBEL := Lib.hid hbel
    by_cases hka : k < la
    · obtain ⟨bA, oA, rfl, hca⟩ : ∃ bk ok, A = some ⟨bk, ok, none⟩ ∧ ∀ i, i < la → wr.cell? ⟨bk, ok + i, none⟩ = some (.int .u64 ((dg a i : Nat) : Int)) := by
        rcases HRA.out.frame (Only.of_below hbel []) with h | ⟨bk, ok, hA, h⟩
        · omega
        · exact ⟨bk, ok, hA, h⟩
      have hc0 := hca k hka
      have hcc := World.rowIs.cell hown hka
      have hfr := World.rowIs.frozen hown k
      have hda := dg_lt a k
      have hdb := dg_lt a (k + 1)
      have d1 : decide (k < la) = true := decide_eq_true hka
      obtain ⟨y, hy⟩ : ∃ y : Nat, y = dg a (k + 1) * 4294967296 := ⟨_, rfl⟩
      have W0 : IntKind.u64.wrap (((dg a (k + 1) : Nat) : Int) * 4294967296) = (y : Int) := by
        have := wrap_nat (dg a (k + 1) * 4294967296) (by omega)
        rw [hy]
        rwa [Int.natCast_mul] at this
      obtain ⟨x, hx⟩ : ∃ x : Nat, x = dg a k + y := ⟨_, rfl⟩
      have W1 : IntKind.u64.wrap (((dg a k : Nat) : Int) + (y : Int)) = (x : Int) := by
        rw [hx, ← Int.natCast_add]
        exact wrap_nat _ (by omega)
      have hxb : x < 18446744073709551616 := by omega
      have hds := dg_shr a k n hn
      rw [← hy, ← hx] at hds
      have hdl : x / 2 ^ n % 4294967296 < 4294967296 := Nat.mod_lt _ (by decide)
      have hset := hown.set k hdl
      rw [setd_snoc (Nat.mod_lt _ (P_pos k)), ← hds, Nat.add_comm, ← mod_step] at hset
      have S1 : (x : Int) / 2 ^ n = ((x / 2 ^ n : Nat) : Int) := by
        rw [Int.natCast_ediv, Int.natCast_pow]
        first | done | rfl
      have T1 : ((x / 2 ^ n : Nat) : Int).tmod 4294967296 = ((dg (a / 2 ^ n) k : Nat) : Int) := by
        rw [Int.tmod_eq_emod_of_nonneg (Int.natCast_nonneg _), hds]
        omega
      have T2 : ((x / 2 ^ n : Nat) : Int) % 4294967296 = ((dg (a / 2 ^ n) k : Nat) : Int) := by
        rw [hds]
        omega
      have HSET := Lib.hid hset
      have hnn : (n : Int) < 64 := by omega
      by_cases hk1 : k + 1 < la
      · have hc1 : wr.cell? ⟨bA, oA + (k + 1), none⟩ = some (.int .u64 ((dg a (k + 1) : Nat) : Int)) := hca (k + 1) hk1
        have d2 : decide (k + 1 < la) = true := decide_eq_true hk1
        have d3 : ((k : Int) + 1 < (la : Int)) := by omega
        clear hset hds hdl hda hdb hown hbel hmk hca hx hy
        generalize x / 2 ^ n = z at *
        generalize dg (a / 2 ^ n) k = dz at *
        generalize ((dg a k : Nat) : Int) = d0 at *
        generalize ((dg a (k + 1) : Nat) : Int) = dd1 at *
        go_wp2_with fail
        go_roundw
        case rel => exact ⟨k + 1, by omega, by go_num, HSET.out, HBEL.out.setCell (Nat.le_refl _) _⟩
        case measure => simp [intOf]; omega
      · have hz : dg a (k + 1) = 0 := dg_zero ((nd_le a (k + 1)).1 (Nat.le_trans ((nd_le a la).2 HA.out) (by omega)))
        have hyx : dg a k = x := by omega
        have d2 : decide (k + 1 < la) = false := decide_eq_false hk1
        have d3 : ¬ ((k : Int) + 1 < (la : Int)) := by omega
        rw [hyx] at hc0
        clear hset hds hdl hda hdb hown hbel hmk hca hx hy hz W0 W1 hyx
        generalize x / 2 ^ n = z at *
        generalize dg (a / 2 ^ n) k = dz at *
        go_wp2_with fail
        go_roundw
        case rel => exact ⟨k + 1, by omega, by go_num, HSET.out, HBEL.out.setCell (Nat.le_refl _) _⟩
        case measure => simp [intOf]; omega
    · obtain rfl : k = la := by omega
      have hlt : a / 2 ^ n < P k := Nat.lt_of_le_of_lt (Nat.div_le_self _ _) HA.out
      rw [mod_all hlt] at hown
      have HV := Lib.hid (norm_ (some ⟨w.heap.size, 0, none⟩) k k (a / 2 ^ n) wr hlt (Nat.le_refl _) (fun h => by cases h) (by omega) hown.row)
      clear hlt hown hmk
      go_wp2_with (go_at_call 62; refine HV.out.mono ?_; rintro e w' ⟨v, rfl, hn, rfl⟩)
      go_ret
      exact ⟨_, rfl, by assumption, Only.of_below HBEL.out []⟩
/-- bit k of a number, by its digits -/
theorem bit_dg (a k : Nat) : dg a (k / 32) / 2 ^ (k % 32) % 2 = a / 2 ^ k % 2 := by
  have e : 2 ^ k = P (k / 32) * 2 ^ (k % 32) := by
    rw [P_two, ← Nat.pow_add]
    congr 1
    omega
  rw [e, ← Nat.div_div_eq_div_mul]
  unfold dg
  generalize a / P (k / 32) = y
  have h1 := Nat.mod_add_div y 4294967296
  have h2 : 4294967296 = 2 ^ (k % 32) * (2 * 2 ^ (31 - k % 32)) := by
    rw [Nat.mul_left_comm, ← Nat.pow_add, show k % 32 + (31 - k % 32) = 31 by omega]
  generalize hm : y % 4294967296 = m at *
  generalize hq : y / 4294967296 = q at *
  rw [← h1, h2, Nat.mul_assoc, Nat.add_mul_div_left _ _ (Nat.pow_pos (by decide)), Nat.mul_assoc, Nat.add_mul_mod_self_left]
set_option maxRecDepth 8000 in
set_option maxHeartbeats 2000000 in
/-- how often 2 divides a = o * 2 ^ t, o odd -/
theorem twosN_ (A : Option Addr) (la c o t : Nat) (w : World) (ho : o % 2 = 1) (ha : o * 2 ^ t < P la) (hla : la ≤ 1099511627776) (hra : Row w A la (o * 2 ^ t)) :
    Calls Tryz.prog 88 #[.slice A la c] w fun e w' => e = .returned (.int .i64 (t : Int)) ∧ w = w' := by
  have HRA := Lib.hid hra
  have HA := Lib.hid ha
  have HO := Lib.hid ho
  have ht : t < 32 * la := by
    rw [← Nat.pow_lt_pow_iff_right (a := 2) (by decide), ← P_two]
    refine Nat.lt_of_le_of_lt ?_ ha
    exact Nat.le_mul_of_pos_left _ (by omega)
  clear hra ha ho
  go_enter Tryz.func88, Tryz.ntmps88
  go_wp2_with fail
  go_loop [3] (fun n => ∃ k : Nat, k ≤ t ∧ n = .int .i64 (k : Int)) (fun n => t - (intOf n).toNat)
  case atStart => exact ⟨0, Nat.zero_le _, rfl⟩
  case round =>
    obtain ⟨k, hk, rfl⟩ := hrel
    obtain ⟨h, hh⟩ : ∃ h : Nat, h = k / 32 := ⟨_, rfl⟩
    obtain ⟨s, hs⟩ : ∃ s : Nat, s = k % 32 := ⟨_, rfl⟩
    have hb := bit_dg (o * 2 ^ t) k
    rw [← hh, ← hs] at hb
    have hhl : h < la := by omega
    obtain ⟨bA, oA, rfl, hca⟩ : ∃ bk ok, A = some ⟨bk, ok, none⟩ ∧ w.cell? ⟨bk, ok + h, none⟩ = some (.int .u64 ((dg (o * 2 ^ t) h : Nat) : Int)) := by
      rcases HRA.out with h1 | ⟨bk, ok, hA, h1⟩
      · omega
      · exact ⟨bk, ok, hA, h1 h hhl⟩
    have D1 : (k : Int) / 32 = (h : Int) := by omega
    have D2 : (k : Int) % 32 = (s : Int) := by omega
    have D1' : (k : Int).tdiv 32 = (h : Int) := by rw [Int.tdiv_eq_ediv_of_nonneg (by omega)]; omega
    have D2' : (k : Int).tmod 32 = (s : Int) := by rw [Int.tmod_eq_emod_of_nonneg (by omega)]; omega
    have hs64 : (s : Int) < 64 := by omega
    obtain ⟨d, hd⟩ : ∃ d : Nat, d = dg (o * 2 ^ t) h := ⟨_, rfl⟩
    rw [← hd] at hb hca
    have S1 : (d : Int) / 2 ^ s = ((d / 2 ^ s : Nat) : Int) := by
      rw [Int.natCast_ediv, Int.natCast_pow]
      first | done | rfl
    by_cases hkt : k < t
    · have hz : d / 2 ^ s % 2 = 0 := by
        rw [hb]
        have e : o * 2 ^ t = 2 ^ k * (2 * (o * 2 ^ (t - k - 1))) := by
          have : 2 ^ t = 2 ^ k * (2 * 2 ^ (t - k - 1)) := by
            rw [Nat.mul_left_comm, ← Nat.pow_add, ← Nat.pow_succ']
            congr 1
            omega
          rw [this, Nat.mul_left_comm o, Nat.mul_left_comm o]
        rw [e, Nat.mul_div_cancel_left _ (Nat.pow_pos (by decide)), Nat.mul_mod_right]
      have T1 : ((d / 2 ^ s : Nat) : Int).tmod 2 = 0 := by
        rw [Int.tmod_eq_emod_of_nonneg (Int.natCast_nonneg _)]
        omega
      have T2 : ((d / 2 ^ s : Nat) : Int) % 2 = 0 := by omega
      clear hz hb hd hh hs
      generalize d / 2 ^ s = z at *
      go_wp2_with fail
      go_round
      case rel => exact ⟨k + 1, by omega, by go_num⟩
      case measure => simp [intOf]; omega
    · obtain rfl : k = t := by omega
      have hz : d / 2 ^ s % 2 = 1 := by
        rw [hb, Nat.mul_div_cancel _ (Nat.pow_pos (by decide))]
        exact HO.out
      have T1 : ((d / 2 ^ s : Nat) : Int).tmod 2 = 1 := by
        rw [Int.tmod_eq_emod_of_nonneg (Int.natCast_nonneg _)]
        omega
      have T2 : ((d / 2 ^ s : Nat) : Int) % 2 = 1 := by omega
      clear hz hb hd hh hs
      generalize d / 2 ^ s = z at *
      go_wp2_with fail
      go_ret
      exact ⟨rfl, rfl⟩
theorem row_from {w : World} {b o L x h : Nat} (hr : Row w (some ⟨b, o, none⟩) L x) (hh : h ≤ L) : Row w (some ⟨b, o + h, none⟩) (L - h) (x / P h) := by
  rcases hr with h0 | ⟨b', o', hA, hc⟩
  · exact .inl (by omega)
  · cases hA
    refine .inr ⟨b, o + h, rfl, fun i hi => ?_⟩
    rw [dg_div, Nat.add_assoc]
    exact hc (h + i) (by omega)
theorem div_lt_P {x L h : Nat} (hx : x < P L) (hh : h ≤ L) : x / P h < P (L - h) := by
  rw [Nat.div_lt_iff_lt_mul (P_pos h), ← P_add, Nat.sub_add_cancel hh]
  exact hx
set_option maxRecDepth 8000 in
set_option maxHeartbeats 2000000 in
theorem shrN_ (A : Option Addr) (la c a n : Nat) (w : World) (ha : a < P la) (hc : la ≤ c) (hla : la ≤ 1099511627776) (hn : n ≤ 1099511627776) (hra : Row w A la a) :
    Calls Tryz.prog 89 #[.slice A la c, .int .i64 (n : Int)] w fun e w' => ∃ v, e = .returned v ∧ Num w' v (a / 2 ^ n) ∧ Only [] w w' := by
  obtain ⟨h, hh⟩ : ∃ h : Nat, h = n / 32 := ⟨_, rfl⟩
  obtain ⟨s, hs⟩ : ∃ s : Nat, s = n % 32 := ⟨_, rfl⟩
  have D1 : (n : Int) / 32 = (h : Int) := by omega
  have D2 : (n : Int) % 32 = (s : Int) := by omega
  have D1' : (n : Int).tdiv 32 = (h : Int) := by rw [Int.tdiv_eq_ediv_of_nonneg (by omega)]; omega
  have D2' : (n : Int).tmod 32 = (s : Int) := by rw [Int.tmod_eq_emod_of_nonneg (by omega)]; omega
  have hns : a / 2 ^ n = a / P h / 2 ^ s := by
    rw [P_two, Nat.div_div_eq_div_mul, ← Nat.pow_add]
    congr 2
    omega
  have hsb : s < 32 := by omega
  rw [hns]
  clear hs hh hns
  by_cases hl : la ≤ h
  · have h0 : a / P h = 0 := Nat.div_eq_of_lt (Nat.lt_of_lt_of_le ha (P_mono hl))
    rw [h0, Nat.zero_div]
    have HRA := Lib.hid hra
    clear hra ha h0
    have d1 : decide (la ≤ h) = true := decide_eq_true hl
    go_enter Tryz.func89, Tryz.ntmps89
    go_wp2_with fail
    go_ret
    exact ⟨_, rfl, Num.zero w, Only.refl [] w⟩
  · obtain ⟨bA, oA, rfl⟩ : ∃ bk ok, A = some ⟨bk, ok, none⟩ := by
      rcases hra with h1 | ⟨bk, ok, hA, h1⟩
      · omega
      · exact ⟨bk, ok, hA⟩
    have HV := Lib.hid (shr_ (some ⟨bA, oA + h, none⟩) (la - h) (c - h) (a / P h) s w (div_lt_P ha (by omega)) (by omega) hsb (row_from hra (by omega)))
    clear hra ha
    have d1 : decide (la ≤ h) = false := decide_eq_false hl
    go_enter Tryz.func89, Tryz.ntmps89
    go_wp2_with (go_at_call 86; refine HV.out.mono ?_; rintro e w' ⟨v, rfl, hn, ho⟩)
    go_ret
    exact ⟨_, rfl, by assumption, by assumption⟩
end Go.Proofs.YtpamkblhdgjlcaaGreatDoor
