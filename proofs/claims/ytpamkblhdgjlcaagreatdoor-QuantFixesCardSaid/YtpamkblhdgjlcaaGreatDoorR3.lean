/- One digit set; the walk of the reference's SubN. -/
import Derived.Test.YtpamkblhdgjlcaaGreatDoorProg
import Derived.Test.YtpamkblhdgjlcaaGreatDoorBase
import Derived.Test.YtpamkblhdgjlcaaGreatDoorRA
import Derived.Test.YtpamkblhdgjlcaaGreatDoorR2
import Derived.WalkKit
import Derived.WalkSpells
import Derived.WalkLawsBesides
import Derived.Handy
import Derived.Deep.QuietTactic
import Derived.Deep.OwnRows
import Derived.BigQuiet
set_option linter.unusedSimpArgs false
set_option linter.unusedVariables false
namespace Go.Proofs.YtpamkblhdgjlcaaGreatDoor
open Go.RowKit

theorem P_mono {i j : Nat} (h : i ≤ j) : P i ≤ P j := Nat.pow_le_pow_right (by decide) h
theorem P_lt {i j : Nat} (h : i < j) : P i < P j := Nat.pow_lt_pow_right (by decide) h
theorem nd_mono {x y : Nat} (h : x ≤ y) : nd x ≤ nd y := (nd_le x _).2 (Nat.lt_of_le_of_lt h (lt_P y))
/-- digit k set to d -/
def setd (C k d : Nat) : Nat := C % P k + (d + C / P (k + 1) * 4294967296) * P k
theorem dg_div (x k i : Nat) : dg (x / P k) i = dg x (k + i) := by
  unfold dg
  rw [P_add, ← Nat.div_div_eq_div_mul]
theorem dg_mod (x k i : Nat) (h : i < k) : dg (x % P k) i = dg x i := by
  have e : x = x % P k + x / P k * P k := by rw [Nat.mul_comm]; exact (Nat.mod_add_div x (P k)).symm
  have := dg_low (a := x % P k) (b := x / P k) (Nat.mod_lt x (P_pos k)) h
  rw [← e] at this
  exact this.symm
theorem dg_setd {C k d : Nat} (hd : d < 4294967296) (i : Nat) : dg (setd C k d) i = if i = k then d else dg C i := by
  have hm := Nat.mod_lt C (P_pos k)
  unfold setd
  rcases Nat.lt_trichotomy i k with h | h | h
  · rw [dg_low hm h, dg_mod _ _ _ h, if_neg (by omega)]
  · subst h
    have := dg_high (i := 0) (b := d + C / P (i + 1) * 4294967296) hm
    simp only [Nat.add_zero] at this
    rw [this, if_pos rfl]
    unfold dg
    rw [P_zero, Nat.div_one, Nat.add_mul_mod_self_right, Nat.mod_eq_of_lt hd]
  · obtain ⟨j, rfl⟩ : ∃ j, i = k + (1 + j) := ⟨i - k - 1, by omega⟩
    rw [dg_high hm, if_neg (by omega)]
    have h1 : d < P 1 := hd
    have := dg_high (i := j) (b := C / P (k + 1)) h1
    rw [show P 1 = 4294967296 from rfl] at this
    rw [this, dg_div]
    congr 1
    omega
theorem setd_snoc {C k : Nat} (h : C < P k) (d : Nat) : setd C k d = C + d * P k := by
  unfold setd
  rw [mod_all h, Nat.div_eq_of_lt (Nat.lt_trans h (P_lt (Nat.lt_succ_self k))), Nat.zero_mul, Nat.add_zero]
/-- a new block that holds L digits of C -/
def RowD (w : World) (g L C : Nat) : Prop := w.rowIs g 22 L (fun i => .int .u64 ((dg C i : Nat) : Int))
theorem RowD.row {w : World} {g L C : Nat} (h : RowD w g L C) : Row w (some ⟨g, 0, none⟩) L C := .inr ⟨g, 0, rfl, fun i hi => by rw [Nat.zero_add]; exact World.rowIs.cell h hi⟩
theorem RowD.set {w : World} {g L C : Nat} (h : RowD w g L C) (k : Nat) {d : Nat} (hd : d < 4294967296) : RowD (w.setCell ⟨g, k, none⟩ (.int .u64 (d : Int))) g L (setd C k d) :=
  (World.rowIs.set h k _).congr (fun j _ => by
    rw [dg_setd hd]
    by_cases e : j = k
    · rw [if_pos e, if_pos e]
    · rw [if_neg e, if_neg e])
theorem RowD.made (w : World) (L : Nat) : RowD (w.alloc (.cells (madeCells #[.int .u64 0] L) 22)) w.heap.size L 0 :=
  (World.rowIs_made w (.int .u64 0) L 22).congr (fun i _ => by rw [dg_zero (P_pos i)]; rfl)
theorem make_row (L : Nat) (h : L ≤ 2199023255552) (w : World) : (Instr.makeSlice 49 (.int .i64 (L : Int)) (.int .i64 (L : Int))).run Tryz.prog w = .ok (.slice (some ⟨w.heap.size, 0, none⟩) L L) (w.alloc (.cells (madeCells #[.int .u64 0] L) 22)) :=
  run_make_row' 49 22 (.int .u64 0) 8 Tryz.underlying49 info_word rfl .i64 .i64 L (by omega) (by omega) w
theorem sub_step {C bm am bw da db d q Pk : Nat} (hX : C + bm = am + bw * Pk) (hs : d + q * 4294967296 + bw + db = da + 4294967296) (hq : q ≤ 1) :
    (C + d * Pk) + (db * Pk + bm) = (da * Pk + am) + (1 - q) * (Pk * 4294967296) := by
  have e : d + db + bw = da + (1 - q) * 4294967296 := by
    have : (1 - q) * 4294967296 + q * 4294967296 = 4294967296 := by
      rw [← Nat.add_mul, Nat.sub_add_cancel hq, Nat.one_mul]
    omega
  have h := congrArg (· * Pk) e
  simp only [Nat.add_mul] at h
  have e2 : (1 - q) * (Pk * 4294967296) = (1 - q) * 4294967296 * Pk := by rw [Nat.mul_comm Pk, Nat.mul_assoc]
  rw [e2]
  omega
theorem wrap_sub {m n : Nat} (h : n ≤ m) (hm : m < 18446744073709551616) : IntKind.u64.wrap ((m : Int) - (n : Int)) = ((m - n : Nat) : Int) := by
  show ((m : Int) - (n : Int)) % 18446744073709551616 = _
  omega
set_option maxRecDepth 8000 in
set_option maxHeartbeats 4000000 in
theorem subN_ (A A' : Option Addr) (la lb c c' a b : Nat) (w : World) (ha : a < P la) (hb : b < P lb) (hab : b ≤ a) (hla : la ≤ 1099511627776) (hlb : lb ≤ 1099511627776) (hra : Row w A la a) (hrb : Row w A' lb b) :
    Calls Tryz.prog 58 #[.slice A la c, .slice A' lb c'] w fun e w' => ∃ v, e = .returned v ∧ Num w' v (a - b) ∧ Only [] w w' ∧ Fresh w.heap.size v := by
  have hmk := make_row la (by omega)
  have HRA := Lib.hid hra
  have HRB := Lib.hid hrb
  have HA := Lib.hid ha
  have HB := Lib.hid hb
  have HAB := Lib.hid hab
  clear hra hrb ha hb hab
  go_enter Tryz.func58, Tryz.ntmps58
  go_wp2
  go_loopw [6, 7] (fun bv i wr => ∃ k C bw : Nat, k ≤ la ∧ i = .int .i64 k ∧ bv = .int .u64 (bw : Int) ∧ bw ≤ 1 ∧ RowD wr w.heap.size la C ∧ C < P k ∧ Hid (C + b % P k = a % P k + bw * P k) ∧ Below w.heap.size w wr) (fun _ i _ => la - (intOf i).toNat)
  case atStart => exact ⟨0, 0, 0, Nat.zero_le _, rfl, rfl, Nat.zero_le _, RowD.made w la, P_pos 0, Lib.hid (by rw [P_zero, Nat.mod_one, Nat.mod_one]), (below_me w).alloc (Nat.le_refl _) _⟩
  case round =>
    obtain ⟨k, C, bw, hk, rfl, rfl, hbw, hown, hC, hE, hbel⟩ := hrel
    have HC := Lib.hid hC
    have HOWN := Lib.hid hown
    have HBEL := Lib.hid hbel
    have hsz : w.heap.size ≤ wr.heap.size := hbel.size
    by_cases hka : k < la
    · obtain ⟨bA, oA, rfl, hca⟩ : ∃ bk ok, A = some ⟨bk, ok, none⟩ ∧ wr.cell? ⟨bk, ok + k, none⟩ = some (.int .u64 ((dg a k : Nat) : Int)) := by
        rcases HRA.out.frame (Only.of_below hbel []) with h | ⟨bk, ok, hA, h⟩
        · omega
        · exact ⟨bk, ok, hA, h k hka⟩
      have hda := dg_lt a k
      have hdb := dg_lt b k
      obtain ⟨x, hx⟩ : ∃ x : Nat, x = dg a k + 4294967296 - bw - dg b k := ⟨_, rfl⟩
      have hxb : x < 8589934592 ∧ x / 4294967296 ≤ 1 := by omega
      have W1 : IntKind.u64.wrap (((dg a k : Nat) : Int) + 4294967296) = ((dg a k + 4294967296 : Nat) : Int) := by
        have := wrap_nat (dg a k + 4294967296) (by omega)
        rwa [Int.natCast_add] at this
      have W2 : IntKind.u64.wrap (((dg a k + 4294967296 : Nat) : Int) - (bw : Int)) = ((dg a k + 4294967296 - bw : Nat) : Int) := wrap_sub (by omega) (by omega)
      have hstep := sub_step (d := x % 4294967296) (q := x / 4294967296) (da := dg a k) (db := dg b k) hE.out (by omega) hxb.2
      rw [← P_succ, ← mod_step, ← mod_step] at hstep
      have HSTEP := Lib.hid hstep
      have M1 : ((x : Nat) : Int) % 4294967296 = ((x % 4294967296 : Nat) : Int) := cast_mod x
      have Q1 : IntKind.u64.wrap (((x : Nat) : Int) / 4294967296) = ((x / 4294967296 : Nat) : Int) := wrap_div _ (by omega)
      have Q2 : IntKind.u64.wrap (1 - ((x / 4294967296 : Nat) : Int)) = ((1 - x / 4294967296 : Nat) : Int) := wrap_sub (m := 1) hxb.2 (by omega)
      have HD := Lib.hid (show x % 4294967296 < 4294967296 by omega)
      have HQ := Lib.hid (show 1 - x / 4294967296 ≤ 1 by omega)
      have hset := (hown.set k HD.out)
      rw [setd_snoc hC] at hset
      have HSET := Lib.hid hset
      have hcell := World.rowIs.cell hown hka
      have hfr := World.rowIs.frozen hown k
      have d1 : decide (k < la) = true := decide_eq_true hka
      by_cases hkb : k < lb
      · obtain ⟨bB, oB, rfl, hcb⟩ : ∃ bk ok, A' = some ⟨bk, ok, none⟩ ∧ wr.cell? ⟨bk, ok + k, none⟩ = some (.int .u64 ((dg b k : Nat) : Int)) := by
          rcases HRB.out.frame (Only.of_below hbel []) with h | ⟨bk, ok, hA, h⟩
          · omega
          · exact ⟨bk, ok, hA, h k hkb⟩
        have W3 : IntKind.u64.wrap (((dg a k + 4294967296 - bw : Nat) : Int) - ((dg b k : Nat) : Int)) = (x : Int) := by
          rw [wrap_sub (by omega) (by omega), hx]
        have d2 : decide (k < lb) = true := decide_eq_true hkb
        clear hset hstep hxb hx hda hdb hC hown hbel hE hbw
        generalize x % 4294967296 = d at *
        generalize 1 - x / 4294967296 = b1 at *
        generalize x / 4294967296 = qn at *
        generalize dg a k + 4294967296 - bw = x2 at *
        generalize dg a k + 4294967296 = x1 at *
        generalize ((dg a k : Nat) : Int) = da at *
        generalize ((dg b k : Nat) : Int) = db at *
        go_wp2_with fail
        go_roundw
        case rel => exact ⟨k + 1, C + d * P k, b1, by omega, by go_num, rfl, HQ.out, HSET.out, snoc_lt HC.out HD.out, HSTEP, HBEL.out.setCell (Nat.le_refl _) _⟩
        case measure => simp [intOf]; omega
      · have hzb : dg b k = 0 := dg_zero ((nd_le b k).1 (Nat.le_trans ((nd_le b lb).2 HB.out) (by omega)))
        have e1 : dg a k + 4294967296 - bw = x := by omega
        rw [e1] at W2
        have d2 : decide (k < lb) = false := decide_eq_false hkb
        clear hset hstep hxb hx hda hdb hC hown hbel hE hbw hzb e1
        generalize x % 4294967296 = d at *
        generalize 1 - x / 4294967296 = b1 at *
        generalize x / 4294967296 = qn at *
        generalize dg a k + 4294967296 = x1 at *
        generalize ((dg a k : Nat) : Int) = da at *
        go_wp2_with fail
        go_roundw
        case rel => exact ⟨k + 1, C + d * P k, b1, by omega, by go_num, rfl, HQ.out, HSET.out, snoc_lt HC.out HD.out, HSTEP, HBEL.out.setCell (Nat.le_refl _) _⟩
        case measure => simp [intOf]; omega
    · obtain rfl : k = la := by omega
      have hsub : C = a - b := by
        have h1 := hE.out
        rw [mod_all HA.out, mod_all (Nat.lt_of_le_of_lt HAB.out HA.out)] at h1
        have h2 := HAB.out
        have h3 := HC.out
        rcases Nat.lt_or_ge bw 1 with h | h
        · have : bw = 0 := by omega
          rw [this, Nat.zero_mul] at h1
          omega
        · have : bw = 1 := by omega
          rw [this, Nat.one_mul] at h1
          omega
      have HV := Lib.hid (norm_x (some ⟨w.heap.size, 0, none⟩) k k C wr hC (Nat.le_refl _) (fun h => by cases h) (by omega) hown.row)
      have HS := Lib.hid hsub
      have HN := Lib.hid (Num.cut hC (Nat.le_refl _) (fun h => by cases h) hown.row)
      clear hsub hE hown hC HC HOWN hmk
      go_wp2_with (go_at_call 62; refine HV.out.mono ?_; rintro e w' ⟨rfl, rfl⟩)
      go_ret
      rw [← HS.out]
      exact ⟨_, rfl, HN.out, Only.of_below HBEL.out [], Fresh.some (Nat.le_refl _)⟩
end Go.Proofs.YtpamkblhdgjlcaaGreatDoor
