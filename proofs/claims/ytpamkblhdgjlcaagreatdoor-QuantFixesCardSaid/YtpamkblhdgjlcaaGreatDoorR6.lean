/- The walks of the reference's BitsN, small, shr, TwosN, ShrN. -/
import Derived.Test.YtpamkblhdgjlcaaGreatDoorProg
import Derived.Test.YtpamkblhdgjlcaaGreatDoorBase
import Derived.Test.YtpamkblhdgjlcaaGreatDoorRC
import Derived.WalkKit
import Derived.WalkSpells
import Derived.WalkLawsBesides
import Derived.Handy
import Derived.Deep.QuietTactic
import Derived.Deep.OwnRows
import Derived.BigQuiet
set_option linter.unusedSimpArgs false
set_option linter.unusedVariables false
namespace Go.Proofs.YtpamkblhdgjlcaaGreatDoor
open Go.RowKit

/-- how many bits -/
def bits (x : Nat) : Nat := if x = 0 then 0 else x.log2 + 1
theorem bits_le (x k : Nat) : bits x ≤ k ↔ x < 2 ^ k := by
  unfold bits
  by_cases h : x = 0
  · rw [if_pos h, h]
    exact ⟨fun _ => Nat.pow_pos (by decide), fun _ => Nat.zero_le _⟩
  · rw [if_neg h, ← Nat.log2_lt h]
    exact Iff.rfl
theorem bits_zero : bits 0 = 0 := rfl
theorem bits_pos {x : Nat} (h : x ≠ 0) : 0 < bits x := by unfold bits; rw [if_neg h]; omega
theorem eq_of_le {x y : Nat} (h : ∀ k, x ≤ k ↔ y ≤ k) : x = y := Nat.le_antisymm ((h y).2 (Nat.le_refl _)) ((h x).1 (Nat.le_refl _))
theorem bits_div {x m : Nat} (h : x / 2 ^ m ≠ 0) : bits x = m + bits (x / 2 ^ m) := by
  refine eq_of_le fun k => ?_
  rw [bits_le]
  rcases Nat.lt_or_ge k m with hk | hk
  · have h1 : ¬ x < 2 ^ k := by
      intro hx
      have := Nat.pow_lt_pow_right (a := 2) (by decide) hk
      exact h (Nat.div_eq_of_lt (by omega))
    have h2 := bits_pos h
    constructor
    · intro hx; exact absurd hx h1
    · intro hx; omega
  · obtain ⟨j, rfl⟩ : ∃ j, k = m + j := ⟨k - m, by omega⟩
    rw [Nat.add_le_add_iff_left, bits_le, Nat.div_lt_iff_lt_mul (Nat.pow_pos (by decide)), ← Nat.pow_add, Nat.add_comm m j]
theorem bits_half {x : Nat} (h : x ≠ 0) : bits x = bits (x / 2) + 1 := by
  by_cases h1 : x = 1
  · subst h1; rfl
  · have := bits_div (x := x) (m := 1) (by omega)
    rw [Nat.pow_one] at this
    omega
theorem bits_top {a L : Nat} (ha : a < P (L + 1)) (h : dg a L ≠ 0) : bits a = 32 * L + bits (dg a L) := by
  have e : dg a L = a / 2 ^ (32 * L) := by
    unfold dg
    rw [P_two, Nat.mod_eq_of_lt]
    rw [Nat.div_lt_iff_lt_mul (Nat.pow_pos (by decide)), ← P_two, Nat.mul_comm, ← P_succ]
    exact ha
  rw [e] at h ⊢
  exact bits_div h
set_option maxRecDepth 8000 in
set_option maxHeartbeats 2000000 in
theorem bitsN_ (v : Value) (a : Nat) (w : World) (hv : Num w v a) (hla : nd a ≤ 1099511627776) :
    Calls Tryz.prog 83 #[v] w fun e w' => e = .returned (.int .i64 (bits a : Int)) ∧ w = w' := by
  obtain ⟨A, c, rfl, hc, hA, hr⟩ := hv
  by_cases h0 : a = 0
  · subst h0
    have hb : bits 0 = 0 := rfl
    rw [nd_zero, hb]
    clear hr
    go_enter Tryz.func83, Tryz.ntmps83
    go_wp2_with fail
    go_ret
    exact ⟨rfl, rfl⟩
  · obtain ⟨L, hL⟩ : ∃ L, nd a = L + 1 := ⟨nd a - 1, by have := nd_pos h0; omega⟩
    have hlt := lt_P a
    rw [hL] at hr hlt hla hc ⊢
    obtain ⟨bA, oA, rfl, hca⟩ : ∃ bk ok, A = some ⟨bk, ok, none⟩ ∧ w.cell? ⟨bk, ok + L, none⟩ = some (.int .u64 ((dg a L : Nat) : Int)) := by
      rcases hr with h | ⟨bk, ok, hA, h⟩
      · omega
      · exact ⟨bk, ok, hA, h L (by omega)⟩
    have hd : dg a L ≠ 0 := by
      intro h
      have h1 := (nd_le a L).2 (lt_of_dg_zero hlt h)
      omega
    have HB := Lib.hid (bits_top hlt hd)
    have e1 : ((L + 1 : Nat) : Int) - 1 = (L : Int) := by omega
    have hL1 : L < L + 1 := by omega
    have hlf : (((L + 1 : Nat) : Int) == 0) = false := by simp; omega
    have hdb : dg a L < 4294967296 := dg_lt a L
    have HDB := Lib.hid hdb
    have hbb : bits (dg a L) ≤ 32 := (bits_le _ _).2 (by have := dg_lt a L; omega)
    have HBB := Lib.hid hbb
    clear hr hd hlt hA hL h0 hdb hbb
    go_enter Tryz.func83, Tryz.ntmps83
    go_wp2_with fail
    go_loop [3, 4] (fun n x => ∃ k y : Nat, k ≤ 32 ∧ y < 4294967296 ∧ n = .int .i64 (32 * (L : Int) + (k : Int)) ∧ x = .int .u64 (y : Int) ∧ Hid (k + bits y = bits (dg a L))) (fun _ x => (intOf x).toNat)
    case atStart => exact ⟨0, dg a L, by omega, HDB.out, by go_num, rfl, Lib.hid (by omega)⟩
    case round =>
      obtain ⟨k, y, hk, hy, rfl, rfl, hE⟩ := hrel
      by_cases hy0 : y = 0
      · subst hy0
        have hE' := hE.out
        rw [bits_zero] at hE'
        have hfin : 32 * (L : Int) + (k : Int) = ((bits a : Nat) : Int) := by rw [HB.out]; omega
        have HF := Lib.hid hfin
        clear hE' hfin hE
        go_wp2_with fail
        go_ret
        rw [HF.out]
        exact ⟨rfl, rfl⟩
      · have hp : (0 : Int) < (y : Int) := by omega
        have hp' : decide (0 < y) = true := decide_eq_true (by omega)
        have hb := bits_half hy0
        have hE2 : k + 1 + bits (y / 2) = bits (dg a L) := by rw [← hE.out, hb]; omega
        have hk2 : k + 1 ≤ 32 := by have := HBB.out; omega
        have Q1 : IntKind.u64.wrap ((y : Int) / 2) = ((y / 2 : Nat) : Int) := by
          show ((y : Int) / 2) % 18446744073709551616 = _
          omega
        have hy2 : y / 2 < 4294967296 := by omega
        have hdec : y / 2 < y := by omega
        have HK2 := Lib.hid hk2
        have HE2 := Lib.hid hE2
        have HY2 := Lib.hid hy2
        have HDEC := Lib.hid hdec
        clear hE2 hk2 hb hE hy2 hdec
        generalize y / 2 = y2 at *
        go_wp2_with fail
        go_round
        case rel => exact ⟨k + 1, y2, HK2.out, HY2.out, by go_num, rfl, HE2⟩
        case measure => have := HDEC.out; simp [intOf]; omega
theorem small_step {A q r d da x : Nat} (hA : A = q * d + r) (hx : x = r * 4294967296 + da) : A * 4294967296 + da = (q * 4294967296 + x / d) * d + x % d := by
  have h := Nat.div_add_mod x d
  have e : (q * 4294967296 + x / d) * d = q * d * 4294967296 + d * (x / d) := by
    rw [Nat.add_mul, Nat.mul_right_comm, Nat.mul_comm (x / d)]
  rw [e, hA, Nat.add_mul]
  omega
theorem small_bound {r d da : Nat} (hr : r < d) (hd : d < 4294967296) (hda : da < 4294967296) : r * 4294967296 + da < 18446744073709551616 ∧ (r * 4294967296 + da) / d < 4294967296 ∧ r * 4294967296 < 18446744073709551616 := by
  refine ⟨by omega, ?_, by omega⟩
  rw [Nat.div_lt_iff_lt_mul (by omega)]
  have : (r + 1) * 4294967296 ≤ d * 4294967296 := Nat.mul_le_mul_right _ hr
  omega
theorem dg_above (q k : Nat) : dg (q * P (k + 1)) k = 0 := by
  have := dg_low (a := 0) (b := q) (k := k + 1) (P_pos _) (Nat.lt_succ_self k)
  rw [Nat.zero_add] at this
  rw [this, dg_zero (P_pos k)]
set_option maxRecDepth 8000 in
set_option maxHeartbeats 4000000 in
theorem small_ (A : Option Addr) (la c a d : Nat) (w : World) (ha : a < P la) (hla : la ≤ 1099511627776) (hd0 : 0 < d) (hd : d < 4294967296) (hra : Row w A la a) :
    Calls Tryz.prog 82 #[.slice A la c, .int .u64 (d : Int)] w fun e w' => ∃ v u, e = .returned (.tuple #[v, u]) ∧ Num w' v (a / d) ∧ Num w' u (a % d) ∧ Only [] w w' := by
  have hmk := make_row la (by omega)
  have HRA := Lib.hid hra
  have HA := Lib.hid ha
  have HD := Lib.hid hd
  have HD0 := Lib.hid hd0
  have hdn : ¬ d = 0 := by omega
  clear hra ha hd hd0
  go_enter Tryz.func82, Tryz.ntmps82
  go_wp2_with fail
  go_loopw [7, 8] (fun rv i wr => ∃ k q r : Nat, k ≤ la ∧ i = .int .i64 ((k : Int) - 1) ∧ rv = .int .u64 (r : Int) ∧ r < d ∧ Hid (a / P k = q * d + r) ∧ RowD wr w.heap.size la (q * P k) ∧ Below w.heap.size w wr) (fun _ i _ => (intOf i + 1).toNat)
  case atStart => exact ⟨la, 0, 0, Nat.le_refl _, rfl, rfl, HD0.out, Lib.hid (by rw [Nat.div_eq_of_lt HA.out, Nat.zero_mul]), by rw [Nat.zero_mul]; exact RowD.made w la, (below_me w).alloc (Nat.le_refl _) _⟩
  case round =>
    obtain ⟨k, q, r, hk, rfl, rfl, hr, hE, hown, hbel⟩ := hrel
    have HBEL := Lib.hid hbel
    cases k with
    | zero =>
      have hE' := hE.out
      rw [P_zero, Nat.div_one] at hE'
      rw [P_zero, Nat.mul_one] at hown
      have hq : a / d = q := by
        rw [hE', Nat.add_comm, Nat.add_mul_div_right _ _ HD0.out, Nat.div_eq_of_lt hr, Nat.zero_add]
      have hm : a % d = r := by
        rw [hE', Nat.add_comm, Nat.add_mul_mod_self_right, Nat.mod_eq_of_lt hr]
      have hql : q < P la := by
        rw [← hq]
        exact Nat.lt_of_le_of_lt (Nat.div_le_self a d) HA.out
      have HN := Lib.hid (norm_ (some ⟨w.heap.size, 0, none⟩) la la q wr hql (Nat.le_refl _) (fun h => by cases h) (by omega) hown.row)
      have HR := Lib.hid (show r < 18446744073709551616 by have := HD.out; omega)
      have HQ := Lib.hid hq
      have HM := Lib.hid hm
      clear hq hm hql hE hE' hown hmk hr
      go_wp2_with first
        | (go_at_call 62; refine HN.out.mono ?_; rintro e w' ⟨v, rfl, hn, rfl⟩; have HN1 := Lib.hid hn; clear hn)
        | (go_at_call 38; refine (word_ r HR.out _).mono ?_; rintro e w2 ⟨u, rfl, hn, ho⟩; have HN2 := Lib.hid hn; have HO2 := Lib.hid ho; clear hn ho)
      go_ret2
      rw [HQ.out, HM.out]
      exact ⟨_, _, rfl, HN1.out.frame HO2.out, HN2.out, (Only.of_below HBEL.out []).trans HO2.out⟩
    | succ j =>
      have ej : ((j + 1 : Nat) : Int) - 1 = (j : Int) := by omega
      rw [ej]
      obtain ⟨bA, oA, rfl, hca⟩ : ∃ bk ok, A = some ⟨bk, ok, none⟩ ∧ wr.cell? ⟨bk, ok + j, none⟩ = some (.int .u64 ((dg a j : Nat) : Int)) := by
        rcases HRA.out.frame (Only.of_below hbel []) with h | ⟨bk, ok, hA, h⟩
        · omega
        · exact ⟨bk, ok, hA, h j (by omega)⟩
      have hjl : j < la := by omega
      have hcc := World.rowIs.cell hown hjl
      have hfr := World.rowIs.frozen hown j
      obtain ⟨s1, s2, s3⟩ := small_bound hr HD.out (dg_lt a j)
      obtain ⟨x, hx⟩ : ∃ x : Nat, x = r * 4294967296 + dg a j := ⟨_, rfl⟩
      rw [← hx] at s1 s2
      have W0 : IntKind.u64.wrap ((r : Int) * 4294967296) = ((r * 4294967296 : Nat) : Int) := by
        have := wrap_nat (r * 4294967296) s3
        rwa [Int.natCast_mul] at this
      have W1 : IntKind.u64.wrap (((r * 4294967296 : Nat) : Int) + ((dg a j : Nat) : Int)) = (x : Int) := by
        rw [hx, ← Int.natCast_add]
        exact wrap_nat _ (by rw [← hx]; exact s1)
      have Q1 : IntKind.u64.wrap ((x : Int) / (d : Int)) = ((x / d : Nat) : Int) := by
        rw [← Int.natCast_ediv]
        exact wrap_nat _ (by omega)
      have M1 : (x : Int) % (d : Int) = ((x % d : Nat) : Int) := by rw [Int.natCast_emod]
      have M2 : IntKind.u64.wrap ((x % d : Nat) : Int) = ((x % d : Nat) : Int) := wrap_nat _ (by have := Nat.mod_lt x HD0.out; have := HD.out; omega)
      have hset := hown.set j s2
      have hsd : setd (q * P (j + 1)) j (x / d) = (q * 4294967296 + x / d) * P j := by
        have := setd_add (q * P (j + 1)) j (x / d)
        rw [dg_above, Nat.zero_mul, Nat.add_zero] at this
        rw [this, P_succ, Nat.add_mul, Nat.mul_comm (P j), Nat.mul_assoc]
      rw [hsd] at hset
      have HSET := Lib.hid hset
      have hstep := small_step hE.out hx
      rw [← div_step] at hstep
      have HSTEP := Lib.hid hstep
      have HRL := Lib.hid (Nat.mod_lt x HD0.out)
      clear ej s1 s2 s3 hx hset hsd hstep hE hr hown hbel hk
      generalize q * 4294967296 + x / d = q2 at *
      generalize x / d = xq at *
      generalize x % d = xr at *
      generalize r * 4294967296 = x0 at *
      generalize ((dg a j : Nat) : Int) = da at *
      go_wp2_with fail
      go_roundw
      case rel => exact ⟨j, q2, xr, by omega, by go_num, by rw [M1], HRL.out, HSTEP, HSET.out, HBEL.out.setCell (Nat.le_refl _) _⟩
      case measure => simp [intOf]
end Go.Proofs.YtpamkblhdgjlcaaGreatDoor
