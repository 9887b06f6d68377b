/- The walk of the reference's MulN. The walk of the reference's ShlN. -/
import Derived.Test.YtpamkblhdgjlcaaGreatDoorProg
import Derived.Test.YtpamkblhdgjlcaaGreatDoorBase
import Derived.Test.YtpamkblhdgjlcaaGreatDoorR3
import Derived.WalkKit
import Derived.WalkSpells
import Derived.WalkLawsBesides
import Derived.Handy
import Derived.Deep.QuietTactic
import Derived.Deep.OwnRows
import Derived.BigQuiet
import Derived.OwnWalk
import Derived.Laws.AppendOwn
import Derived.Laws.OwnMore
set_option linter.unusedSimpArgs false
set_option linter.unusedVariables false
namespace Go.Proofs.YtpamkblhdgjlcaaGreatDoor
open Go.RowKit

theorem mul_bound {x y c k : Nat} (hx : x < 4294967296) (hy : y < 4294967296) (hc : c < 4294967296) (hk : k < 4294967296) : c + (x * y + k) < 18446744073709551616 ∧ (c + (x * y + k)) / 4294967296 < 4294967296 ∧ x * y < 18446744073709551616 ∧ x * y + k < 18446744073709551616 := by
  have h : x * y ≤ 4294967295 * 4294967295 := Nat.mul_le_mul (by omega) (by omega)
  generalize x * y = z at *
  omega
/-- digit k set, by a sum -/
theorem setd_add (C k d : Nat) : setd C k d + dg C k * P k = C + d * P k := by
  have h1 := Nat.mod_add_div C (P k)
  have h2 := div_step C k
  unfold setd
  rw [Nat.add_mul]
  have h3 : C / P k * P k = (C / P (k + 1) * 4294967296 + dg C k) * P k := by rw [← h2]
  rw [Nat.add_mul] at h3
  rw [Nat.mul_comm] at h1
  omega
theorem mul_step {C cy x bm am b db d q c0 Pi Pj C' : Nat} (hE : C + cy * (Pi * Pj) = am * b + x * bm * Pi) (hs : d + q * 4294967296 = cy + (x * db + c0)) (hC' : C' + c0 * (Pi * Pj) = C + d * (Pi * Pj)) :
    C' + q * (Pi * (Pj * 4294967296)) = am * b + x * (db * Pj + bm) * Pi := by
  have h := congrArg (· * (Pi * Pj)) hs
  simp only [Nat.add_mul] at h
  have e : q * (Pi * (Pj * 4294967296)) = q * 4294967296 * (Pi * Pj) := by
    rw [Nat.mul_assoc q, Nat.mul_left_comm 4294967296, Nat.mul_comm 4294967296]
  have e2 : x * (db * Pj + bm) * Pi = x * db * (Pi * Pj) + x * bm * Pi := by
    rw [Nat.mul_add, Nat.add_mul]
    congr 1
    rw [← Nat.mul_assoc, Nat.mul_assoc (x * db), Nat.mul_comm Pj]
  rw [e, e2]
  omega
theorem setd_lt {C k d n : Nat} (hC : C < P n) (hk : k < n) (hd : d < 4294967296) : setd C k d < P n := by
  have h : ∀ i, n ≤ i → dg (setd C k d) i = 0 := fun i hi => by
    rw [dg_setd hd, if_neg (by omega)]
    exact dg_zero (Nat.lt_of_lt_of_le hC (P_mono hi))
  have key : ∀ m, setd C k d < P (n + m) → setd C k d < P n := by
    intro m
    induction m with
    | zero => exact fun h => h
    | succ m ih => exact fun h' => ih (lt_of_dg_zero h' (h _ (by omega)))
  rcases Nat.le_total (nd (setd C k d)) n with h' | h'
  · exact (nd_le _ _).1 h'
  · exact key (nd (setd C k d) - n) (by rw [show n + (nd (setd C k d) - n) = nd (setd C k d) by omega]; exact lt_P _)
theorem below_drewN {B : Nat} {a w : World} (h : Below B a w) (n : Nat) : Below B a (w.drewN n) := ⟨h.os, h.tape, h.output, h.size, h.block⟩
theorem mul_lt {a b la lb : Nat} (ha : a < P la) (hb : b < P lb) : a * b < P (la + lb) := by
  rw [P_add]
  exact Nat.mul_lt_mul'' ha hb
set_option maxRecDepth 8000 in
set_option maxHeartbeats 4000000 in
theorem mulN_ (A A' : Option Addr) (la lb c c' a b : Nat) (w : World) (ha : a < P la) (hb : b < P lb) (hla : la ≤ 1099511627776) (hlb : lb ≤ 1099511627776) (hra : Row w A la a) (hrb : Row w A' lb b) :
    Calls Tryz.prog 36 #[.slice A la c, .slice A' lb c'] w fun e w' => ∃ v, e = .returned v ∧ Num w' v (a * b) ∧ Only [] w w' := by
  have hmk := make_row (la + lb) (by omega)
  rw [Int.natCast_add] at hmk
  have HRA := Lib.hid hra
  have HRB := Lib.hid hrb
  have HA := Lib.hid ha
  have HB := Lib.hid hb
  clear hra hrb ha hb
  go_enter Tryz.func36, Tryz.ntmps36
  go_wp2
  go_loopw [6] (fun i wr => ∃ k C : Nat, k ≤ la ∧ i = .int .i64 k ∧ RowD wr w.heap.size (la + lb) C ∧ C < P (k + lb) ∧ Hid (C = a % P k * b) ∧ Below w.heap.size w wr) (fun i _ => la - (intOf i).toNat)
  case atStart => exact ⟨0, 0, Nat.zero_le _, rfl, RowD.made w _, P_pos _, Lib.hid (by rw [P_zero, Nat.mod_one, Nat.zero_mul]), (below_me w).alloc (Nat.le_refl _) _⟩
  case round =>
    obtain ⟨k, C, hk, rfl, hown, hC, hE, hbel⟩ := hrel
    have HC := Lib.hid hC
    have HOWN := Lib.hid hown
    have HBEL := Lib.hid hbel
    by_cases hka : k < la
    · have d1 : decide (k < la) = true := decide_eq_true hka
      obtain ⟨bA, oA, rfl, hca⟩ : ∃ bk ok, A = some ⟨bk, ok, none⟩ ∧ w.cell? ⟨bk, ok + k, none⟩ = some (.int .u64 ((dg a k : Nat) : Int)) := by
        rcases HRA.out with h | ⟨bk, ok, hA, h⟩
        · omega
        · exact ⟨bk, ok, hA, h k hka⟩
      have hda := dg_lt a k
      have hltA := World.block_lt_of_cell? w _ hca
      clear hC hown hbel
      go_wp2_with fail
      go_loopw [7, 8] (fun cv jv ws => ∃ j D cy : Nat, j ≤ lb ∧ jv = .int .i64 j ∧ cv = .int .u64 (cy : Int) ∧ cy < 4294967296 ∧ RowD ws w.heap.size (la + lb) D ∧ D < P (k + lb) ∧ Hid (D + cy * (P k * P j) = a % P k * b + dg a k * (b % P j) * P k) ∧ Below w.heap.size w ws) (fun _ j _ => lb - (intOf j).toNat)
      case atStart => exact ⟨0, C, 0, Nat.zero_le _, rfl, rfl, by decide, HOWN.out, HC.out, Lib.hid (by rw [P_zero, Nat.mod_one, Nat.mul_zero, Nat.zero_mul, Nat.zero_mul]; exact hE.out), HBEL.out⟩
      case round =>
        obtain ⟨j, D, cy, hj, rfl, rfl, hcy, hown, hD, hE2, hbel⟩ := hrel
        have HD := Lib.hid hD
        have HOWN2 := Lib.hid hown
        have HBEL2 := Lib.hid hbel
        have hca2 : wr.cell? ⟨bA, oA + k, none⟩ = some (.int .u64 ((dg a k : Nat) : Int)) := by rw [hbel.cell hltA]; exact hca
        by_cases hjb : j < lb
        · obtain ⟨bB, oB, rfl, hcb⟩ : ∃ bk ok, A' = some ⟨bk, ok, none⟩ ∧ wr.cell? ⟨bk, ok + j, none⟩ = some (.int .u64 ((dg b j : Nat) : Int)) := by
            rcases HRB.out.frame (Only.of_below hbel []) with h | ⟨bk, ok, hA, h⟩
            · omega
            · exact ⟨bk, ok, hA, h j hjb⟩
          have d2 : decide (j < lb) = true := decide_eq_true hjb
          have hkj : k + j < la + lb := by omega
          have hcc := World.rowIs.cell hown hkj
          have hfr := World.rowIs.frozen hown (k + j)
          obtain ⟨s1, s2, s3, s4⟩ := mul_bound (dg_lt a k) (dg_lt b j) hcy (dg_lt D (k + j))
          have hxd : dg D (k + j) < 4294967296 := dg_lt _ _
          obtain ⟨m, hm⟩ : ∃ m : Nat, m = dg a k * dg b j := ⟨_, rfl⟩
          obtain ⟨m2, hm2⟩ : ∃ m2 : Nat, m2 = m + dg D (k + j) := ⟨_, rfl⟩
          obtain ⟨s, hs⟩ : ∃ s : Nat, s = cy + m2 := ⟨_, rfl⟩
          rw [← hm] at s1 s2 s3 s4
          rw [← hm2] at s1 s2 s4
          rw [← hs] at s1 s2
          have W1 : IntKind.u64.wrap (((dg a k : Nat) : Int) * ((dg b j : Nat) : Int)) = (m : Int) := by
            rw [hm, ← Int.natCast_mul]
            exact wrap_nat _ (by rw [← hm]; exact s3)
          have W2 : IntKind.u64.wrap ((m : Int) + ((dg D (k + j) : Nat) : Int)) = (m2 : Int) := by
            rw [hm2, ← Int.natCast_add]
            exact wrap_nat _ (by rw [← hm2]; exact s4)
          have W3 : IntKind.u64.wrap ((cy : Int) + (m2 : Int)) = (s : Int) := by
            rw [hs, ← Int.natCast_add]
            exact wrap_nat _ (by rw [← hs]; exact s1)
          have M1 : ((s : Nat) : Int) % 4294967296 = ((s % 4294967296 : Nat) : Int) := cast_mod s
          have Q1 : IntKind.u64.wrap (((s : Nat) : Int) / 4294967296) = ((s / 4294967296 : Nat) : Int) := wrap_div _ s1
          have hds : s % 4294967296 < 4294967296 := Nat.mod_lt _ (by decide)
          have hDS := Lib.hid hds
          have HSET := Lib.hid (hown.set (k + j) hds)
          have HLT := Lib.hid (setd_lt hD (show k + j < k + lb by omega) hds)
          have hsum := setd_add D (k + j) (s % 4294967296)
          rw [P_add] at hsum
          have hstep := mul_step (d := s % 4294967296) (q := s / 4294967296) (db := dg b j) (c0 := dg D (k + j)) hE2.out (by rw [← hm, ← hm2, ← hs]; omega) hsum
          rw [← P_succ, ← mod_step] at hstep
          have HSTEP := Lib.hid hstep
          have HQ := Lib.hid s2
          clear hstep hsum hds s1 s2 s3 s4 hs hm hm2 hxd hD hown hbel hE2 hcy hda hca
          generalize setd D (k + j) (s % 4294967296) = D' at *
          generalize s % 4294967296 = d at *
          generalize s / 4294967296 = qn at *
          generalize ((dg D (k + j) : Nat) : Int) = dd at *
          generalize ((dg b j : Nat) : Int) = db at *
          generalize hda : ((dg a k : Nat) : Int) = da at hca2 W1
          clear hda
          go_wp2_with fail
          go_quiet (fail)
          go_wp2_with fail
          go_roundw
          case rel => exact ⟨j + 1, D', qn, by omega, by go_num, rfl, HQ.out, HSET.out, HLT.out, HSTEP, below_drewN (HBEL2.out.setCell (Nat.le_refl _) _) _⟩
          case measure => simp [intOf]; omega
        · obtain rfl : j = lb := by omega
          have hkl : k + j < la + j := by omega
          have hcc := World.rowIs.cell hown hkl
          rw [dg_zero hD] at hcc
          have hfr := World.rowIs.frozen hown (k + j)
          have W1 : IntKind.u64.wrap (cy : Int) = (cy : Int) := wrap_nat _ (by omega)
          have hset := hown.set (k + j) hcy
          rw [setd_snoc hD] at hset
          have HSET := Lib.hid hset
          have hlt := snoc_lt hD hcy
          have e1 : k + j + 1 = k + 1 + j := by omega
          rw [e1] at hlt
          have HLT := Lib.hid hlt
          have hfin : D + cy * P (k + j) = a % P (k + 1) * b := by
            have h1 := hE2.out
            rw [mod_all HB.out] at h1
            rw [P_add, h1, mod_step, Nat.add_mul, Nat.add_comm, Nat.mul_right_comm]
          have HFIN := Lib.hid hfin
          have d2 : decide (j < j) = false := decide_eq_false (by omega)
          clear hfin hlt hset hD hown hbel hE2 hcy hda hca e1
          go_wp2_with fail
          go_roundw
          case rel => exact ⟨k + 1, _, by omega, by go_num, HSET.out, HLT.out, HFIN, HBEL2.out.setCell (Nat.le_refl _) _⟩
          case measure => simp [intOf]; omega
    · obtain rfl : k = la := by omega
      have hmul : C = a * b := by rw [hE.out, mod_all HA.out]
      have HV := Lib.hid (norm_ (some ⟨w.heap.size, 0, none⟩) (k + lb) (k + lb) C wr hC (Nat.le_refl _) (fun h => by cases h) (by omega) hown.row)
      have HS := Lib.hid hmul
      clear hmul hE hown hC HC HOWN hmk
      go_wp2_with (go_at_call 62; refine HV.out.mono ?_; rintro e w' ⟨v, rfl, hn, rfl⟩)
      go_ret
      rw [← HS.out]
      exact ⟨_, rfl, hn, Only.of_below HBEL.out []⟩
end Go.Proofs.YtpamkblhdgjlcaaGreatDoor
namespace Go.Proofs.YtpamkblhdgjlcaaGreatDoor
open Go.RowKit

theorem make_cap (l L : Nat) (hl : l ≤ L) (h : L ≤ 2199023255552) (w : World) : (Instr.makeSlice 49 (.int .i64 (l : Int)) (.int .i64 (L : Int))).run Tryz.prog w = .ok (.slice (some ⟨w.heap.size, 0, none⟩) l L) (w.alloc (.cells (madeCells #[.int .u64 0] L) 22)) := by
  obtain ⟨i0, hi, hz0, hz1, hz2⟩ := info_parts info_word
  have hr := run_make (P := Tryz.prog) w 49 22 i0 (.int .u64 0) Tryz.underlying49 hi hz0 .i64 .i64 l L (by omega) (by omega) (by rw [hz2]; omega) (by omega)
  simp only [Int.toNat_natCast, hz1, Nat.mul_one] at hr
  exact hr
theorem digs_nought (l : Nat) : digs 0 l = List.replicate l (.int .u64 0) := by
  apply List.ext_getElem?
  intro j
  by_cases hj : j < l
  · rw [digs_get 0 l j hj, dg_zero (P_pos j)]
    simp [hj]
  · rw [List.getElem?_eq_none (by rw [digs_len]; omega), List.getElem?_eq_none (by simp; omega)]
theorem OwnD.made (w : World) (base l L : Nat) (hl : l ≤ L) (hL : L ≤ 2199023255552) (hb : base ≤ w.heap.size) : OwnD (w.alloc (.cells (madeCells #[.int .u64 0] L) 22)) base (.slice (some ⟨w.heap.size, 0, none⟩) l L) l 0 := by
  refine ⟨by rw [digs_len, Nat.mul_one], .inr ⟨w.heap.size, L, _, rfl, hb, heap_alloc_new w _, hl, by unfold maxLen; omega, by rw [size_madeCells, Nat.mul_one], ?_⟩⟩
  rw [toList_madeCells_one, digs_nought, Nat.mul_one, List.take_replicate, Nat.min_eq_left hl]
theorem shl_step {X cy am da d q Ph Pk s : Nat} (hX : X + cy * (Ph * Pk) = am * (s * Ph)) (hs : d + q * 4294967296 = cy + da * s) :
    (X + d * (Ph * Pk)) + q * (Ph * Pk * 4294967296) = (da * Pk + am) * (s * Ph) := by
  have h := congrArg (· * (Ph * Pk)) hs
  simp only [Nat.add_mul] at h
  have e : q * (Ph * Pk * 4294967296) = q * 4294967296 * (Ph * Pk) := by rw [Nat.mul_comm (Ph * Pk), Nat.mul_assoc]
  have e2 : (da * Pk + am) * (s * Ph) = da * s * (Ph * Pk) + am * (s * Ph) := by
    rw [Nat.add_mul]
    congr 1
    rw [Nat.mul_mul_mul_comm, Nat.mul_comm Pk]
  rw [e, e2]
  omega
theorem shl_bound {cy da s : Nat} (hc : cy < s) (hd : da < 4294967296) (hs : s ≤ 4294967296) : cy + da * s < 18446744073709551616 ∧ (cy + da * s) / 4294967296 < s ∧ da * s < 18446744073709551616 := by
  have h : da * s ≤ 4294967295 * s := Nat.mul_le_mul_right s (by omega)
  omega
set_option maxRecDepth 8000 in
set_option maxHeartbeats 4000000 in
theorem shlN_ (A : Option Addr) (la c a n : Nat) (w : World) (ha : a < P la) (hla : la ≤ 1099511627776) (hn : n ≤ 1099511627776) (hra : Row w A la a) :
    Calls Tryz.prog 37 #[.slice A la c, .int .i64 (n : Int)] w fun e w' => ∃ v, e = .returned v ∧ OwnD w' w.heap.size v (nd (a * 2 ^ n)) (a * 2 ^ n) ∧ Only [] w w' := by
  obtain ⟨i0, hi, hz0, hz1, hz2⟩ := info_parts info_word
  have HRA := Lib.hid hra
  have HA := Lib.hid ha
  clear hra ha
  obtain ⟨h, hh⟩ : ∃ h : Nat, h = n / 32 := ⟨_, rfl⟩
  obtain ⟨s, hs⟩ : ∃ s : Nat, s = n % 32 := ⟨_, rfl⟩
  have D1 : (n : Int) / 32 = (h : Int) := by omega
  have D2 : (n : Int) % 32 = (s : Int) := by omega
  have D1' : (n : Int).tdiv 32 = (h : Int) := by rw [Int.tdiv_eq_ediv_of_nonneg (by omega)]; omega
  have D2' : (n : Int).tmod 32 = (s : Int) := by rw [Int.tmod_eq_emod_of_nonneg (by omega)]; omega
  have hsb : s < 32 := by omega
  have hhb : h ≤ 1099511627776 := by omega
  have hns : 2 ^ n = 2 ^ s * P h := by
    rw [P_two, ← Nat.pow_add]
    congr 1
    omega
  have hmk := make_cap h (h + la + 1) (by omega) (by omega)
  rw [show ((h + la + 1 : Nat) : Int) = (h : Int) + (la : Int) + 1 by omega] at hmk
  have HNS := Lib.hid hns
  clear hs hh hns
  by_cases hl0 : la = 0
  · subst hl0
    have h0 : a = 0 := by have := HA.out; rw [P_zero] at this; omega
    subst h0
    go_enter Tryz.func37, Tryz.ntmps37
    go_wp2_with fail
    go_ret
    exact ⟨_, rfl, (show OwnD w w.heap.size (.slice none 0 0) (nd (0 * 2 ^ n)) (0 * 2 ^ n) by rw [Nat.zero_mul]; exact World.ownsRow_nil _ _ _ _), Only.refl [] w⟩
  · have hlf : ((la : Int) == 0) = false := by simp; omega
    go_enter Tryz.func37, Tryz.ntmps37
    go_wp2_with fail
    go_loopw [5, 6, 7] (fun v cyv i wr => ∃ k X cy : Nat, k ≤ la ∧ i = .int .i64 k ∧ cyv = .int .u64 (cy : Int) ∧ cy < 2 ^ s ∧ OwnD wr w.heap.size v (h + k) X ∧ X < P (h + k) ∧ Hid (X + cy * (P h * P k) = a % P k * (2 ^ s * P h)) ∧ Below w.heap.size w wr) (fun _ _ i _ => la - (intOf i).toNat)
    case atStart => exact ⟨0, 0, 0, Nat.zero_le _, rfl, rfl, Nat.pow_pos (by decide), OwnD.made w _ _ _ (by omega) (by omega) (Nat.le_refl _), P_pos _, Lib.hid (by rw [P_zero, Nat.mod_one, Nat.zero_mul, Nat.zero_mul]), (below_me w).alloc (Nat.le_refl _) _⟩
    case round =>
      obtain ⟨k, X, cy, hk, rfl, rfl, hcy, hown, hX, hE, hbel⟩ := hrel
      have HX := Lib.hid hX
      have HOWN := Lib.hid hown
      have HBEL := Lib.hid hbel
      have hsz : w.heap.size ≤ wr.heap.size := hbel.size
      have h2s : 2 ^ s ≤ 4294967296 := by
        have := Nat.pow_le_pow_right (n := 2) (by decide) (show s ≤ 32 by omega)
        exact this
      by_cases hka : k < la
      · obtain ⟨bA, oA, rfl, hca⟩ : ∃ bk ok, A = some ⟨bk, ok, none⟩ ∧ wr.cell? ⟨bk, ok + k, none⟩ = some (.int .u64 ((dg a k : Nat) : Int)) := by
          rcases HRA.out.frame (Only.of_below hbel []) with h | ⟨bk, ok, hA, h⟩
          · omega
          · exact ⟨bk, ok, hA, h k hka⟩
        obtain ⟨s1, s2, s3⟩ := shl_bound hcy (dg_lt a k) h2s
        obtain ⟨m, hm⟩ : ∃ m : Nat, m = dg a k * 2 ^ s := ⟨_, rfl⟩
        obtain ⟨t, ht⟩ : ∃ t : Nat, t = cy + m := ⟨_, rfl⟩
        rw [← hm] at s1 s2 s3
        rw [← ht] at s1 s2
        have W1 : IntKind.u64.wrap (((dg a k : Nat) : Int) * 2 ^ s) = (m : Int) := by
          have := wrap_nat (dg a k * 2 ^ s) (by rw [← hm]; exact s3)
          rw [← hm] at this
          rw [← this, hm, Int.natCast_mul, Int.natCast_pow]
          first | done | rfl
        have W2 : IntKind.u64.wrap ((cy : Int) + (m : Int)) = (t : Int) := by
          rw [ht, ← Int.natCast_add]
          exact wrap_nat _ (by rw [← ht]; exact s1)
        have d1 : decide (k < la) = true := decide_eq_true hka
        have d2 : ((s : Int) < 64) := by omega
        have M1 : ((t : Nat) : Int) % 4294967296 = ((t % 4294967296 : Nat) : Int) := cast_mod t
        have Q1 : IntKind.u64.wrap (((t : Nat) : Int) / 4294967296) = ((t / 4294967296 : Nat) : Int) := wrap_div _ s1
        have HD := Lib.hid (show t % 4294967296 < 4294967296 from Nat.mod_lt _ (by decide))
        have hstep := shl_step (d := t % 4294967296) (q := t / 4294967296) (da := dg a k) hE.out (by rw [← hm, ← ht]; omega)
        rw [← mod_step, Nat.mul_assoc, ← P_succ] at hstep
        rw [← P_add] at hstep
        have HSTEP := Lib.hid hstep
        have HQ := Lib.hid s2
        clear hstep s1 s2 s3 hm ht hown hbel hX hE hmk hcy
        generalize t % 4294967296 = d at *
        generalize t / 4294967296 = qn at *
        generalize ((dg a k : Nat) : Int) = da at *
        go_wp2_with (at_builtin; refine wpList_append_own _ rfl _ _ 49 rfl w.heap.size 22 i0 (.int .u64 0) 1 8 Tryz.underlying49 hi hz0 hz1 hz2 rfl (by decide) _ _ _ rfl ((show wr.ownsRow w.heap.size 22 1 _ (h + k) (digs X (h + k)) from HOWN.out).alloc _) ⟨wr.heap.size, 0, none⟩ 1 1 [.int .u64 (d : Int)] rfl rfl (cell_one_new _ _ _) (fun u hu => by rw [List.mem_singleton.1 hu]; rfl) (by unfold maxLen; omega) (by omega) (by simp; omega) ?_; intro v' w1 hown' hgrow _; have HO' := Lib.hid hown'; have HG := Lib.hid hgrow; clear hown' hgrow)
        go_roundw
        case rel => exact ⟨k + 1, X + d * P (h + k), qn, by omega, by go_num, rfl, HQ.out, OwnD.snoc HX.out HD.out HO'.out, snoc_lt HX.out HD.out, HSTEP, (HBEL.out.alloc hsz _).grown HG.out (by simp; omega) (fun j hj => own_from HOWN.out j hj)⟩
        case measure => simp [intOf]; omega
      · obtain rfl : k = la := by omega
        have hcb : cy < 4294967296 := by omega
        have hfin : X + cy * P (h + k) = a * 2 ^ n := by
          rw [P_add, hE.out, mod_all HA.out, HNS.out]
        have HFIN := Lib.hid hfin
        have HCB := Lib.hid hcb
        have d1 : decide (k < k) = false := decide_eq_false (by omega)
        clear hfin hcb hown hbel hX hE hmk hcy h2s
        go_wp2_with first
          | (at_builtin; refine wpList_append_own _ rfl _ _ 49 rfl w.heap.size 22 i0 (.int .u64 0) 1 8 Tryz.underlying49 hi hz0 hz1 hz2 rfl (by decide) _ _ _ rfl ((show wr.ownsRow w.heap.size 22 1 _ (h + k) (digs X (h + k)) from HOWN.out).alloc _) ⟨wr.heap.size, 0, none⟩ 1 1 [.int .u64 (cy : Int)] rfl rfl (cell_one_new _ _ _) (fun u hu => by rw [List.mem_singleton.1 hu]; rfl) (by unfold maxLen; omega) (by omega) (by simp; omega) ?_; intro v' w1 hown' hgrow _; have HO1 := Lib.hid (OwnD.snoc HX.out HCB.out hown'); have HG := Lib.hid hgrow; clear hown' hgrow; obtain ⟨V, cV, rfl, HV⟩ := OwnD.row HO1.out; have HVV := Lib.hid HV; clear HV)
          | (go_at_call 62; refine (norm_x V (h + k + 1) cV _ _ (snoc_lt HX.out HCB.out) HVV.out.1 HVV.out.2.1 (by omega) HVV.out.2.2).mono ?_; rintro e w' ⟨rfl, rfl⟩)
        go_ret
        have hcut := OwnD.cut HO1.out (snoc_lt HX.out HCB.out)
        rw [HFIN.out] at hcut ⊢
        exact ⟨_, rfl, hcut, Only.of_below ((HBEL.out.alloc hsz _).grown HG.out (by simp; omega) (fun j hj => own_from HOWN.out j hj)) []⟩
end Go.Proofs.YtpamkblhdgjlcaaGreatDoor
