/- Plain laws: Round of the float's number times 2^n is what Fix answers. No program in sight. Plain laws: the float nearest to a whole number divided by a power of two, as the reference finds it. No program in sight. The walk of the reference's DocFix. The walk of the reference's Limbs, at nought and at a number of two digits. The walk of the reference's nearest at a number that is not nought. The walk of the reference's nearest at nought. The walks of the reference's pattern and Near64. The walk of the reference's DocBack. -/
import Derived.Test.YtpamkblhdgjlcaaGreatDoorS1
import Derived.Test.YtpamkblhdgjlcaaGreatDoorR13
import Derived.Test.YtpamkblhdgjlcaaGreatDoorF4
import Derived.Test.YtpamkblhdgjlcaaGreatDoorM3
import Derived.Test.YtpamkblhdgjlcaaGreatDoorR19
import Derived.Test.YtpamkblhdgjlcaaGreatDoorProg
import Derived.Test.YtpamkblhdgjlcaaGreatDoorBase
import Derived.Test.YtpamkblhdgjlcaaGreatDoorR20
import Derived.WalkKit
import Derived.WalkSpells
import Derived.WalkLawsBesides
import Derived.Handy
import Derived.Deep.QuietTactic
import Derived.Deep.OwnRows
import Derived.BigQuiet
import Derived.OwnWalk
import Derived.Laws.AppendOwn
import Derived.Laws.OwnMore
import Derived.Deep.RegionHeld3
set_option linter.unusedSimpArgs false
set_option linter.unusedVariables false
namespace Go.Proofs.YtpamkblhdgjlcaaGreatDoor

theorem near2_split (m n : Nat) (i : Int) : near2 m (i + n) = rne (m * 2 ^ i.toNat * 2 ^ n) (2 ^ (-i).toNat) := by
  unfold near2
  by_cases hi : 0 ≤ i
  · rw [show (-(i + (n : Int))).toNat = 0 by omega, show (-i).toNat = 0 by omega, Nat.mul_assoc, ← Nat.pow_add, show (i + (n : Int)).toNat = i.toNat + n by omega]
  · rw [show i.toNat = 0 by omega, Nat.pow_zero, Nat.mul_one]
    by_cases hn : 0 ≤ i + n
    · rw [show (-(i + (n : Int))).toNat = 0 by omega, Nat.pow_zero, rne_one]
      rw [show n = (i + (n : Int)).toNat + (-i).toNat by omega, Nat.pow_add, ← Nat.mul_assoc, rne_exact _ _ (Nat.pow_pos (by decide))]
      congr 2
      omega
    · rw [show (i + (n : Int)).toNat = 0 by omega, Nat.pow_zero, Nat.mul_one]
      rw [show (-i).toNat = (-(i + (n : Int))).toNat + n by omega, Nat.pow_add, rne_scale _ _ _ (Nat.pow_pos (by decide))]
theorem round_signed (s : Bool) (a g : Nat) (hg : 0 < g) : roundI (signed s a) g = signed s (rne a g) := by
  unfold signed
  cases s
  · simp only [Bool.false_eq_true, if_false]; exact round_pos a g hg
  · simp only [if_true]; exact round_neg a g hg
theorem round_fix (s : Bool) (m n : Nat) (i : Int) : roundI (signed s (m * 2 ^ i.toNat) * 2 ^ n) (2 ^ (-i).toNat) = fixI s m i n := by
  have hp : (2 : Int) ^ n = ((2 ^ n : Nat) : Int) := by
    rw [Int.natCast_pow]
    first | done | rfl
  have e : signed s (m * 2 ^ i.toNat) * 2 ^ n = signed s (m * 2 ^ i.toNat * 2 ^ n) := by
    rw [hp]
    unfold signed
    cases s <;> simp [Int.natCast_mul, Int.neg_mul]
  rw [e, round_signed _ _ _ (Nat.pow_pos (by decide)), ← near2_split]
  unfold fixI signed
  rfl
end Go.Proofs.YtpamkblhdgjlcaaGreatDoor
namespace Go.Proofs.YtpamkblhdgjlcaaGreatDoor
open Ieee

theorem div_ratio {a b c d : Nat} (hb : 0 < b) (hd : 0 < d) (h : a * d = c * b) : a / b = c / d := by
  rw [← Nat.mul_div_mul_right a b hd, h, Nat.mul_comm b d, Nat.mul_div_mul_right c d hb]
theorem rne_ratio {a b c d : Nat} (hb : 0 < b) (hd : 0 < d) (h : a * d = c * b) : rne a b = rne c d := by
  rw [← rne_scale a b d hd, h, Nat.mul_comm b d, rne_scale c d b hb]
theorem cross_pow {A N m j x L s y : Nat} (hA : A = N * 2 ^ m) (h : x + L = m + s + (j + y)) : N * 2 ^ x * 2 ^ L = A * 2 ^ s * (2 ^ j * 2 ^ y) := by
  rw [hA, Nat.mul_assoc, ← Nat.pow_add, Nat.mul_assoc N, ← Nat.pow_add, ← Nat.pow_add, Nat.mul_assoc, ← Nat.pow_add, h]
theorem bits_is {x s : Nat} (h1 : 2 ^ s ≤ x) (h2 : x < 2 ^ (s + 1)) : bits x = s + 1 := by
  have a1 := (bits_le x (s + 1)).2 h2
  have a2 : ¬ bits x ≤ s := fun h => by have := (bits_le x s).1 h; omega
  omega
/-- the quotient at the place e: s + 1 bits -/
theorem quo_bits {A N m j k s : Nat} {e : Int} (h0 : A ≠ 0) (hA : A = N * 2 ^ m) (hk : m + j = k) (he : e + k + s = A.log2) :
    2 ^ s ≤ N * 2 ^ (-e).toNat / (2 ^ j * 2 ^ e.toNat) ∧ N * 2 ^ (-e).toNat / (2 ^ j * 2 ^ e.toNat) < 2 ^ (s + 1) := by
  have hx := cross_pow (x := (-e).toNat) (L := A.log2) (s := s) (y := e.toNat) (j := j) hA (by omega)
  rw [div_ratio (Nat.mul_pos (Nat.two_pow_pos _) (Nat.two_pow_pos _)) (Nat.two_pow_pos _) hx]
  have h1 := Nat.log2_self_le h0
  have h2 : A < 2 ^ (A.log2 + 1) := Nat.lt_log2_self
  constructor
  · rw [Nat.le_div_iff_mul_le (Nat.two_pow_pos _), Nat.mul_comm]
    exact Nat.mul_le_mul_right _ h1
  · rw [Nat.div_lt_iff_lt_mul (Nat.two_pow_pos _), ← Nat.pow_add, show s + 1 + A.log2 = A.log2 + 1 + s by omega, Nat.pow_add]
    exact Nat.mul_lt_mul_of_pos_right h2 (Nat.two_pow_pos _)
theorem quo_near {A N m j k : Nat} {e : Int} (hA : A = N * 2 ^ m) (hk : m + j = k) (he : e + k + 52 = A.log2) :
    rne (N * 2 ^ (-e).toNat) (2 ^ j * 2 ^ e.toNat) = near2 A (52 - A.log2) := by
  have hx := cross_pow (x := (-e).toNat) (L := (-((52 : Int) - A.log2)).toNat) (s := ((52 : Int) - A.log2).toNat) (y := e.toNat) (j := j) hA (by omega)
  exact rne_ratio (Nat.mul_pos (Nat.two_pow_pos _) (Nat.two_pow_pos _)) (Nat.two_pow_pos _) hx
theorem bits_mul {N m : Nat} (h : N ≠ 0) : bits (N * 2 ^ m) = m + bits N := by
  have := bits_div (x := N * 2 ^ m) (m := m) (by rw [Nat.mul_div_cancel _ (Nat.two_pow_pos _)]; exact h)
  rwa [Nat.mul_div_cancel _ (Nat.two_pow_pos _)] at this
theorem bits_pow (j : Nat) : bits (2 ^ j) = j + 1 := bits_is (Nat.le_refl _) (Nat.pow_lt_pow_right (by decide) (Nat.lt_succ_self j))
/-- two digits -/
theorem nd_two {x : Nat} (h1 : 4294967296 ≤ x) (h2 : x < 18446744073709551616) : nd x = 2 := by
  have a1 := (nd_le x 2).2 h2
  have a2 : ¬ nd x ≤ 1 := fun h => by have : x < 4294967296 := (nd_le x 1).1 h; omega
  omega
theorem two_digits {x : Nat} (h2 : x < 18446744073709551616) : dg x 0 + dg x 1 * 4294967296 = x := by
  have e1 : dg x 0 = x / 1 % 4294967296 := rfl
  have e2 : dg x 1 = x / 4294967296 % 4294967296 := rfl
  omega
end Go.Proofs.YtpamkblhdgjlcaaGreatDoor
namespace Go.Proofs.YtpamkblhdgjlcaaGreatDoor
open Go.RowKit Ieee

theorem doc_bound (s : Bool) (m n : Nat) (i : Int) (hm : m < 9007199254740992) (hi : i ≤ 971) (hn : n ≤ 31) : nd (signed s (m * 2 ^ i.toNat)).natAbs ≤ 1000 ∧ nd ((2 : Int) ^ n).natAbs ≤ 1000 ∧ nd (signed s (m * 2 ^ i.toNat) * 2 ^ n).natAbs ≤ 4000 := by
  have h1 : nd (signed s (m * 2 ^ i.toNat)).natAbs ≤ 1000 := by
    rw [signed_abs]
    have a1 := nd_mul m (2 ^ i.toNat)
    have a2 := nd_word (t := m) (by omega)
    have a3 := @nd_pow i.toNat
    omega
  have h2 := ndi_pow n
  have h3 := ndi_mul (signed s (m * 2 ^ i.toNat)) (2 ^ n)
  exact ⟨h1, by omega, by omega⟩
set_option maxRecDepth 8000 in
set_option maxHeartbeats 4000000 in
theorem docfix_num (x n : Nat) (s : Bool) (m : Nat) (i : Int) (hx : x < 18446744073709551616) (h : double.read x = .number s m i) (h1 : 1 ≤ n) (h2 : n ≤ 31) (w : World) :
    Calls Tryz.prog 7 #[.float .f64 x, .int .i64 n] w fun e w' => e = .returned (.tuple #[.int .i64 (keptI (fixI s m i n)), .bool (keptI (fixI s m i n) != fixI s m i n), .int .i64 0]) ∧ Only [] w w' := by
  obtain ⟨hm, hi, hi2, _⟩ := read_bounds x s m i h
  have hd : decide (x / 4503599627370496 % 2048 < 2047) = true := decide_eq_true (float_parts x s m i hx h).2.1
  have HF := Lib.hid (float_ x s m i)
  have HX := Lib.hid hx
  have HH := Lib.hid h
  have HB := Lib.hid (doc_bound s m n i (by omega) (by omega) h2)
  have HD := Lib.hid hd
  have HI := Lib.hid (show -1074 ≤ i ∧ i ≤ 971 from ⟨by omega, by omega⟩)
  have HN := Lib.hid (show 1 ≤ n ∧ n ≤ 31 from ⟨h1, h2⟩)
  clear hm hi hi2 hd h hx h1 h2
  rw [← round_fix]
  generalize hz : signed s (m * 2 ^ i.toNat) = z at *
  go_enter Tryz.func7, Tryz.ntmps7
  go_wp2_with first
    | (go_at_call 16; refine (fits_yes n HN.out.1 HN.out.2 _).mono ?_; rintro e w' ⟨rfl, rfl⟩)
    | (go_at_call 17; refine (finite_ x HX.out _).mono ?_; rintro e w' ⟨rfl, rfl⟩; rw [HD.out])
    | (go_at_call 20; refine (HF.out _ HX.out HH.out).mono ?_; rintro e w1 ⟨x1, rfl, hr, ho⟩; have HR1 := Lib.hid hr; have HO1 := Lib.hid ho; clear hr ho)
    | (go_at_call 21; refine (scale_ n _ (by have := HN.out; omega)).mono ?_; rintro e w2 ⟨x2, rfl, hr, ho⟩; have HR2 := Lib.hid hr; have HO2 := Lib.hid ho; clear hr ho)
    | (go_at_call 19; refine (mulQ_ x1 x2 _ _ _ _ w2 (HR1.out.frame HO2.out) HR2.out (by have := HB.out; omega) (by have := HB.out; omega) (by have := HI.out; omega) (by decide)).mono ?_; rintro e w3 ⟨x3, rfl, hr, ho⟩; have HR3 := Lib.hid hr; have HO3 := Lib.hid ho; clear hr ho)
    | (go_at_call 18; refine (round_ x3 _ _ w3 HR3.out HB.out.2.2 (by have := HI.out; omega)).mono ?_; rintro e w4 ⟨rfl, ho⟩; have HO4 := Lib.hid ho; clear ho)
  go_ret3
  exact ⟨rfl, ((HO1.out.trans HO2.out).trans HO3.out).trans HO4.out⟩
set_option maxRecDepth 8000 in
set_option maxHeartbeats 4000000 in
theorem docfix_nan (x n : Nat) (hx : x < 18446744073709551616) (h : ∀ s m i, double.read x ≠ .number s m i) (h1 : 1 ≤ n) (h2 : n ≤ 31) (w : World) :
    Calls Tryz.prog 7 #[.float .f64 x, .int .i64 n] w fun e w' => e = .returned (.tuple #[.int .i64 0, .bool false, .int .i64 5]) ∧ w = w' := by
  have hd : decide (x / 4503599627370496 % 2048 < 2047) = false := decide_eq_false (by rw [float_not x hx h]; omega)
  have HX := Lib.hid hx
  have HD := Lib.hid hd
  have HN := Lib.hid (show 1 ≤ n ∧ n ≤ 31 from ⟨h1, h2⟩)
  clear hd h hx h1 h2
  go_enter Tryz.func7, Tryz.ntmps7
  go_wp2_with first
    | (go_at_call 16; refine (fits_yes n HN.out.1 HN.out.2 _).mono ?_; rintro e w' ⟨rfl, rfl⟩)
    | (go_at_call 17; refine (finite_ x HX.out _).mono ?_; rintro e w' ⟨rfl, rfl⟩; rw [HD.out])
  go_ret3
  exact ⟨rfl, rfl⟩
set_option maxRecDepth 8000 in
set_option maxHeartbeats 4000000 in
theorem docfix_arg (x : Nat) (n : Int) (h : n < 1 ∨ 31 < n) (w : World) :
    Calls Tryz.prog 7 #[.float .f64 x, .int .i64 n] w fun e w' => e = .returned (.tuple #[.int .i64 0, .bool false, .int .i64 1]) ∧ w = w' := by
  have HN := Lib.hid h
  clear h
  go_enter Tryz.func7, Tryz.ntmps7
  go_wp2_with first
    | (go_at_call 16; refine (fits_no n HN.out _).mono ?_; rintro e w' ⟨rfl, rfl⟩)
  go_ret3
  exact ⟨rfl, rfl⟩
end Go.Proofs.YtpamkblhdgjlcaaGreatDoor
namespace Go.Proofs.YtpamkblhdgjlcaaGreatDoor
open Go.RowKit

set_option maxRecDepth 8000 in
set_option maxHeartbeats 2000000 in
theorem limbs_none (A : Option Addr) (c : Nat) (w : World) :
    Calls Tryz.prog 90 #[.slice A 0 c] w fun e w' => e = .returned (.slice none 0 0) ∧ w = w' := by
  go_enter Tryz.func90, Tryz.ntmps90
  go_wp2_with fail
  go_loopw [3, 4] (fun l i wr => l = .slice none 0 0 ∧ i = .int .i64 0 ∧ wr = w) (fun _ _ _ => 0)
  case atStart => exact ⟨rfl, rfl, rfl⟩
  case round =>
    obtain ⟨rfl, rfl, rfl⟩ := hrel
    go_wp2_with fail
    go_ret
    exact ⟨rfl, rfl⟩
theorem own_cell {w : World} {base : Nat} {v : Value} {x : Nat} (h : w.ownsRow base 22 1 v 1 [.int .u64 (x : Int)]) : ∃ g c, v = .slice (some ⟨g, 0, none⟩) 1 c ∧ 1 ≤ c ∧ w.cell? ⟨g, 0, none⟩ = some (.int .u64 (x : Int)) := by
  rcases h.2 with ⟨_, h0⟩ | ⟨g, cap, cur, rfl, _, hh, hk, _, hs, ht⟩
  · omega
  · refine ⟨g, cap, rfl, hk, ?_⟩
    simp only [World.cell?, hh]
    have h1 : (cur.toList.take (1 * 1))[0]? = some (.int .u64 (x : Int)) := by rw [ht]; rfl
    rw [List.getElem?_take, if_pos (by decide)] at h1
    simpa using h1
set_option maxRecDepth 8000 in
set_option maxHeartbeats 4000000 in
theorem limbs_two (b o c x : Nat) (w : World) (hx : x < 18446744073709551616) (h0 : w.cell? ⟨b, o, none⟩ = some (.int .u64 ((dg x 0 : Nat) : Int))) (h1 : w.cell? ⟨b, o + 1, none⟩ = some (.int .u64 ((dg x 1 : Nat) : Int))) :
    Calls Tryz.prog 90 #[.slice (some ⟨b, o, none⟩) 2 c] w fun e w' => ∃ g cg, e = .returned (.slice (some ⟨g, 0, none⟩) 1 cg) ∧ 1 ≤ cg ∧ w'.cell? ⟨g, 0, none⟩ = some (.int .u64 (x : Int)) ∧ Only [] w w' := by
  obtain ⟨i0, hi, hz0, hz1, hz2⟩ := info_parts info_word
  have H0 := Lib.hid h0
  have H1 := Lib.hid h1
  have HX := Lib.hid hx
  have hd := two_digits hx
  have hl1 := dg_lt x 1
  have W1 : IntKind.u64.wrap (((dg x 1 : Nat) : Int) * 4294967296) = ((dg x 1 * 4294967296 : Nat) : Int) := by
    have := wrap_nat (dg x 1 * 4294967296) (by omega)
    rwa [Int.natCast_mul] at this
  have W2 : IntKind.u64.wrap (((dg x 0 : Nat) : Int) + ((dg x 1 * 4294967296 : Nat) : Int)) = (x : Int) := by
    rw [← Int.natCast_add, hd]
    exact wrap_nat _ hx
  clear hd hl1 hx h0 h1
  generalize ((dg x 1 * 4294967296 : Nat) : Int) = y1 at *
  generalize ((dg x 1 : Nat) : Int) = d1 at *
  generalize ((dg x 0 : Nat) : Int) = d0 at *
  go_enter Tryz.func90, Tryz.ntmps90
  go_wp2_with fail
  go_loopw [3, 4] (fun l i wr => ∃ k : Nat, k ≤ 1 ∧ i = .int .i64 (2 * (k : Int)) ∧ wr.ownsRow w.heap.size 22 1 l k (List.replicate k (.int .u64 (x : Int))) ∧ Below w.heap.size w wr) (fun _ i _ => 2 - (intOf i).toNat)
  case atStart => exact ⟨0, by decide, rfl, World.ownsRow_nil _ _ _ _, below_me w⟩
  case round =>
    obtain ⟨k, hk, rfl, hown, hbel⟩ := hrel
    have HBEL := Lib.hid hbel
    have hsz : w.heap.size ≤ wr.heap.size := hbel.size
    have hk2 : k = 0 ∨ k = 1 := by omega
    rcases hk2 with rfl | rfl
    · have HOWN := Lib.hid hown
      have g0 := cell_keep H0.out (Only.of_below hbel [])
      have g1 := cell_keep H1.out (Only.of_below hbel [])
      clear hown hbel hk
      go_wp2_with (at_builtin; refine wpList_append_own _ rfl _ _ 49 rfl w.heap.size 22 i0 (.int .u64 0) 1 8 Tryz.underlying49 hi hz0 hz1 hz2 rfl (by decide) _ _ _ rfl (HOWN.out.alloc _) ⟨wr.heap.size, 0, none⟩ 1 1 [.int .u64 (x : Int)] rfl rfl (cell_one_new _ _ _) (fun u hu => by rw [List.mem_singleton.1 hu]; rfl) (by unfold maxLen; omega) (by omega) (by simp; omega) ?_; intro v' w1 hown' hgrow _; have HO' := Lib.hid hown'; have HG := Lib.hid hgrow; clear hown' hgrow)
      go_roundw
      case rel => exact ⟨1, by decide, by go_num, HO'.out, (HBEL.out.alloc hsz _).grown HG.out (by simp; omega) (fun j hj => own_from HOWN.out j hj)⟩
      case measure => simp [intOf]
    · obtain ⟨g, cg, rfl, hcg, hcell⟩ := own_cell hown
      have HC := Lib.hid hcell
      have HCG := Lib.hid hcg
      clear hown hbel hk hcell hcg
      go_wp2_with fail
      go_ret
      exact ⟨_, _, rfl, HCG.out, HC.out, Only.of_below HBEL.out []⟩
end Go.Proofs.YtpamkblhdgjlcaaGreatDoor
namespace Go.Proofs.YtpamkblhdgjlcaaGreatDoor
open Go.RowKit

theorem Num.two {w : World} {v : Value} {x : Nat} (h : Num w v x) (h2 : nd x = 2) : ∃ b o c, v = .slice (some ⟨b, o, none⟩) 2 c ∧ w.cell? ⟨b, o, none⟩ = some (.int .u64 ((dg x 0 : Nat) : Int)) ∧ w.cell? ⟨b, o + 1, none⟩ = some (.int .u64 ((dg x 1 : Nat) : Int)) := by
  obtain ⟨A, c, hv, _, _, hr⟩ := h
  rw [h2] at hv hr
  rcases hr with h' | ⟨b, o, hA, hr⟩
  · exact absurd h' (by decide)
  · rw [hA] at hv
    exact ⟨b, o, c, hv, hr 0 (by decide), hr 1 (by decide)⟩
theorem cmp_is_gt {x y : Nat} (h : y < x) : cmpNat x y = 1 := by unfold cmpNat; rw [if_neg (by omega), if_pos h]
theorem cmp_is_eq {x y : Nat} (h : x = y) : cmpNat x y = 0 := by unfold cmpNat; rw [if_neg (by omega), if_neg (by omega)]
theorem rne_up {n g : Nat} (h : g < n % g * 2 ^ 1 ∨ (n % g * 2 ^ 1 = g ∧ n / g % 2 = 1)) : rne n g = n / g + 1 := by
  unfold rne
  rw [if_pos (by omega)]
theorem rne_down {n g : Nat} (h : n % g * 2 ^ 1 < g ∨ (n % g * 2 ^ 1 = g ∧ n / g % 2 = 0)) : rne n g = n / g := by
  unfold rne
  rw [if_neg (by omega), Nat.add_zero]
theorem digit_mod (x : Nat) : ((dg x 0 : Nat) : Int).tmod 2 = ((x % 2 : Nat) : Int) := by
  have e1 : dg x 0 = x / 1 % 4294967296 := rfl
  rw [Int.tmod_eq_emod_of_nonneg (by omega)]
  omega
theorem quo_first {A N m j k : Nat} {e : Int} (h0 : A ≠ 0) (hA : A = N * 2 ^ m) (hk : m + j = k) (he : e + k + 53 = A.log2) :
    ((bits (N * 2 ^ (-e).toNat / (2 ^ j * 2 ^ e.toNat)) : Nat) : Int) = 54 := by
  obtain ⟨h1, h2⟩ := quo_bits (s := 53) h0 hA hk he
  rw [bits_is h1 h2]; rfl
theorem quo_second {A N m j k : Nat} {e : Int} (h0 : A ≠ 0) (hA : A = N * 2 ^ m) (hk : m + j = k) (he : e + k + 52 = A.log2) :
    ((bits (N * 2 ^ (-e).toNat / (2 ^ j * 2 ^ e.toNat)) : Nat) : Int) = 53 ∧ 4503599627370496 ≤ N * 2 ^ (-e).toNat / (2 ^ j * 2 ^ e.toNat) ∧ N * 2 ^ (-e).toNat / (2 ^ j * 2 ^ e.toNat) < 9007199254740992 := by
  obtain ⟨h1, h2⟩ := quo_bits (s := 52) h0 hA hk he
  exact ⟨by rw [bits_is h1 h2]; rfl, h1, h2⟩
set_option maxRecDepth 8000 in
set_option maxHeartbeats 8000000 in
theorem near_num (neg : Bool) (A1 B1 : Option Addr) (l1 c1 j1 e1 N A m j k : Nat) (w : World) (hn : Num w (.slice A1 l1 c1) N) (hd : Num w (.slice B1 j1 e1) (2 ^ j)) (h0 : A ≠ 0) (hA : A = N * 2 ^ m) (hk : m + j = k) (hk31 : k ≤ 31) (hL : A.log2 ≤ 63) :
    Calls Tryz.prog 63 #[.agg #[.bool neg, .slice A1 l1 c1, .slice B1 j1 e1], .int .i64 53, .int .i64 (-1074)] w fun e w' => e = .returned (.tuple #[.int .u64 ((near2 A (52 - A.log2) : Nat) : Int), .int .i64 ((A.log2 : Int) - 52 - k)]) ∧ Only [] w w' := by
  have hN0 : N ≠ 0 := fun h => h0 (by rw [hA, h, Nat.zero_mul])
  have hbA : bits A = A.log2 + 1 := if_neg h0
  have hbN := bits_mul (m := m) hN0
  rw [← hA] at hbN
  have hbD := bits_pow j
  have hNl : nd N ≤ 2 := by
    have h1 : nd N ≤ nd A := nd_part hA
    have h2 : nd A ≤ 2 := by unfold nd; rw [if_neg h0]; omega
    omega
  have hD1 : nd (2 ^ j) ≤ 32 := by have := @nd_pow j; omega
  obtain ⟨e0, he0⟩ : ∃ e0 : Int, e0 = (A.log2 : Int) - k - 53 := ⟨_, rfl⟩
  have W1 : IntKind.i64.wrap (((bits N : Nat) : Int) - ((bits (2 ^ j) : Nat) : Int)) = e0 + 53 := by
    rw [show ((bits N : Nat) : Int) - ((bits (2 ^ j) : Nat) : Int) = e0 + 53 by omega]
    exact IntWalk.i64_in _ (by omega)
  have W2 : IntKind.i64.wrap e0 = e0 := IntWalk.i64_in _ (by omega)
  have hmx : (if e0 < -1074 then -1074 else e0) = e0 := if_neg (by omega)
  have HMX := Lib.hid hmx
  clear hmx
  have HN := Lib.hid hn
  have HD := Lib.hid hd
  have HNB := Lib.hid (show nd N ≤ 2 ∧ nd (2 ^ j) ≤ 32 from ⟨hNl, hD1⟩)
  have HE0 := Lib.hid he0
  have HK := Lib.hid (show m + j = k ∧ k ≤ 31 ∧ A.log2 ≤ 63 from ⟨hk, hk31, hL⟩)
  have HA := Lib.hid hA
  have H0 := Lib.hid h0
  clear hn hd hk hk31 hL hA h0 hN0 hbA hbN hbD hNl hD1 he0
  have HBW := Lib.hid (show (w.alloc (.cells #[.bool neg, .slice A1 l1 c1, .slice B1 j1 e1] 51)).heap[w.heap.size]? = some (.cells #[.bool neg, .slice A1 l1 c1, .slice B1 j1 e1] 51 (0, 0)) from block_new _ _)
  have HO0 := Lib.hid (show Only [] w (w.alloc (.cells #[.bool neg, .slice A1 l1 c1, .slice B1 j1 e1] 51)) from (Only.refl [] w).alloc _)
  go_enter Tryz.func63, Tryz.ntmps63
  go_wp2_with fail
  generalize w.alloc (.cells #[.bool neg, .slice A1 l1 c1, .slice B1 j1 e1] 51) = w0 at *
  have HNW := Lib.hid (HN.out.frame HO0.out)
  have HDW := Lib.hid (HD.out.frame HO0.out)
  clear HN HD
  have g0 : w0.cell? ⟨w.heap.size, 1, none⟩ = some (.slice A1 l1 c1) ∧ w0.cell? ⟨w.heap.size, 2, none⟩ = some (.slice B1 j1 e1) := ⟨cell_of HBW.out 1 rfl, cell_of HBW.out 2 rfl⟩
  first
  | (go_region_held3 (fun w' => w'.cell? ⟨w.heap.size, 1, none⟩ = some (.slice A1 l1 c1) ∧ w'.cell? ⟨w.heap.size, 2, none⟩ = some (.slice B1 j1 e1)) (first | assumption | exact g0) (first
    | (have hq := HQ1; clear hq; go_at_call 83; refine (bitsN_ _ (2 ^ j) _ (HDW.out.frame (Only.refl [] w0).drew) (by have := HNB.out; omega)).mono ?_; rintro e w' ⟨rfl, rfl⟩)
    | (go_at_call 83; refine (bitsN_ _ N _ (HNW.out.frame (Only.refl [] w0).drew) (by have := HNB.out; omega)).mono ?_; rintro e w' ⟨rfl, rfl⟩; have HQ1 := Lib.hid (rfl : (0 : Nat) = 0))))
  | fail "region 1"
  rw [HMX.out]
  clear HMX W1 W2 HQ1
  have HBD := Lib.hid (HBW.out)
  go_wp2_with fail
  go_loopw [8] (fun ev wr => ∃ i : Nat, i ≤ 1 ∧ ev = .int .i64 (e0 + (i : Int)) ∧ Only [] w0 wr) (fun ev _ => (e0 + 2 - intOf ev).toNat)
  case atStart => exact ⟨0, by decide, by go_num, (Only.refl [] w0).drew⟩
  case round =>
    obtain ⟨i, hi, rfl, ho⟩ := hrel
    have HOR := Lib.hid ho
    have g1 : wr.cell? ⟨w.heap.size, 1, none⟩ = some (.slice A1 l1 c1) ∧ wr.cell? ⟨w.heap.size, 2, none⟩ = some (.slice B1 j1 e1) := ⟨cell_keep g0.1 ho, cell_keep g0.2 ho⟩
    clear g0 ho
    go_wp2_with fail
    first
    | (go_region_held3 (fun w' => w'.cell? ⟨w.heap.size, 1, none⟩ = some (.slice A1 l1 c1) ∧ w'.cell? ⟨w.heap.size, 2, none⟩ = some (.slice B1 j1 e1)) (first | assumption | exact g1) (fail))
    | fail "region 2"
    clear g1
    have HNR := Lib.hid ((HNW.out.frame HOR.out).frame (Only.refl [] wr).drew)
    have HDR := Lib.hid ((HDW.out.frame HOR.out).frame (Only.refl [] wr).drew)
    have HOD := Lib.hid (HOR.out.drew)
    generalize wr.drew = w2 at *
    obtain ⟨ee, hee⟩ : ∃ ee : Int, ee = e0 + (i : Int) := ⟨_, rfl⟩
    rw [← hee]
    have hcase : (i = 0 ∧ 0 ≤ ee) ∨ (i = 0 ∧ ee < 0) ∨ (i = 1 ∧ 0 ≤ ee) ∨ (i = 1 ∧ ee < 0) := by omega
    rcases hcase with ⟨rfl, hs⟩ | ⟨rfl, hs⟩ | ⟨rfl, hs⟩ | ⟨rfl, hs⟩
    · have hlog : ee + k + 53 = A.log2 := by have := HE0.out; omega
      have HQF := Lib.hid (quo_first H0.out HA.out HK.out.1 hlog)
      obtain ⟨en, rfl⟩ : ∃ en : Nat, ee = (en : Int) := ⟨ee.toNat, by omega⟩
      rw [show (-(en : Int)).toNat = 0 by omega, show ((en : Nat) : Int).toNat = en by omega, Nat.pow_zero, Nat.mul_one] at HQF
      have hp : (0 : Int) ≤ (en : Int) := by omega
      have hp2 : decide ((0 : Int) ≤ (en : Int)) = true := decide_eq_true hp
      have W3 : IntKind.i64.wrap ((en : Int) + 1) = (en : Int) + 1 := IntWalk.i64_in _ (by have := HE0.out; have := HK.out; omega)
      have HEN := Lib.hid (show en ≤ 200 by have := HE0.out; have := HK.out; omega)
      have HEE := Lib.hid hee
      have HLG := Lib.hid hlog
      have HBD2 := Lib.hid (show nd N ≤ 1000 ∧ nd (2 ^ j * 2 ^ en) ≤ 1000 ∧ (2 ^ j * 2 ^ en) ≠ 0 by
        have h1 := @nd_pow en
        have h2 := nd_mul (2 ^ j) (2 ^ en)
        have h3 := HNB.out
        have h4 := HEN.out
        refine ⟨by omega, by omega, ?_⟩
        have h5 : 0 < (2 ^ j * 2 ^ en) := by first | exact Nat.two_pow_pos _ | exact Nat.mul_pos (Nat.two_pow_pos _) (Nat.two_pow_pos _)
        omega)
      clear hs hi hee hlog
      obtain ⟨np, hnp⟩ : ∃ np, np = N := ⟨_, rfl⟩
      obtain ⟨dp, hdp⟩ : ∃ dp, dp = (2 ^ j * 2 ^ en) := ⟨_, rfl⟩
      rw [← hnp, ← hdp] at HQF HBD2
      have HNP := Lib.hid hnp
      have HDP := Lib.hid hdp
      clear hnp hdp
      obtain ⟨Q, hQ⟩ : ∃ Q, np / dp = Q := ⟨_, rfl⟩
      obtain ⟨R, hR⟩ : ∃ R, np % dp = R := ⟨_, rfl⟩
      have HQE := Lib.hid hQ
      have HRE := Lib.hid hR
      rw [hQ] at HQF
      clear hQ hR
      have HQR := Lib.hid (show nd Q ≤ 1000 ∧ nd R ≤ 1000 by
        rw [← HQE.out, ← HRE.out]
        exact ⟨Nat.le_trans (nd_mono (Nat.div_le_self _ _)) HBD2.out.1, Nat.le_trans (nd_mono (Nat.mod_le _ _)) HBD2.out.1⟩)
      go_wp2_with first
        | (go_at_call 37; refine (shl_num _ (2 ^ j) en _ HDR.out (by have := HNB.out; omega) (by have := HEN.out; omega)).mono ?_; rintro e w3 ⟨v3, rfl, hr, ho⟩; have HD3 := Lib.hid (OwnD.num hr); rw [← HDP.out] at HD3; have HO3 := Lib.hid ho; have HN3 := Lib.hid (HNR.out.frame ho); rw [show N = np from HNP.out.symm] at HN3; have HSH := Lib.hid (rfl : (0 : Nat) = 0); clear hr ho)
        | (go_at_call 55; refine (div_num _ _ np dp w3 HN3.out HD3.out (by have := HBD2.out; omega) HBD2.out.2.2).mono ?_; rintro e w4 ⟨vq, vr, rfl, h1, h2, ho⟩; rw [HQE.out] at h1; rw [HRE.out] at h2; have HQ4 := Lib.hid h1; have HR4 := Lib.hid h2; have HO4 := Lib.hid ho; clear h1 h2 ho)
        | (go_at_call 83; refine (bitsN_ vq Q w4 HQ4.out (by have := HQR.out; omega)).mono ?_; rintro e w' ⟨rfl, rfl⟩; rw [HQF.out])
      go_roundw
      case rel => exact ⟨1, by decide, by congr 1; have := HEE.out; omega, (HOD.out.trans HO3.out).trans HO4.out⟩
      case measure => have := HEE.out; simp [intOf]; omega
    · have hlog : ee + k + 53 = A.log2 := by have := HE0.out; omega
      have HQF := Lib.hid (quo_first H0.out HA.out HK.out.1 hlog)
      obtain ⟨en, rfl⟩ : ∃ en : Nat, ee = -(en : Int) := ⟨(-ee).toNat, by omega⟩
      rw [show (-(-(en : Int))).toNat = en by omega, show (-((en : Nat) : Int)).toNat = 0 by omega, Nat.pow_zero, Nat.mul_one] at HQF
      have hp : ¬ (0 : Int) ≤ -(en : Int) := by omega
      have hp2 : decide ((0 : Int) ≤ -(en : Int)) = false := decide_eq_false hp
      have W4 : IntKind.i64.wrap (en : Int) = (en : Int) := IntWalk.i64_in _ (by have := HE0.out; have := HK.out; omega)
      have W3 : IntKind.i64.wrap (-(en : Int) + 1) = -(en : Int) + 1 := IntWalk.i64_in _ (by have := HE0.out; have := HK.out; omega)
      have HEN := Lib.hid (show en ≤ 200 by have := HE0.out; have := HK.out; omega)
      have HEE := Lib.hid hee
      have HLG := Lib.hid hlog
      have HBD2 := Lib.hid (show nd (N * 2 ^ en) ≤ 1000 ∧ nd (2 ^ j) ≤ 1000 ∧ (2 ^ j) ≠ 0 by
        have h1 := @nd_pow en
        have h2 := nd_mul N (2 ^ en)
        have h3 := HNB.out
        have h4 := HEN.out
        refine ⟨by omega, by omega, ?_⟩
        have h5 : 0 < (2 ^ j) := by first | exact Nat.two_pow_pos _ | exact Nat.mul_pos (Nat.two_pow_pos _) (Nat.two_pow_pos _)
        omega)
      clear hs hi hee hlog
      obtain ⟨np, hnp⟩ : ∃ np, np = (N * 2 ^ en) := ⟨_, rfl⟩
      obtain ⟨dp, hdp⟩ : ∃ dp, dp = (2 ^ j) := ⟨_, rfl⟩
      rw [← hnp, ← hdp] at HQF HBD2
      have HNP := Lib.hid hnp
      have HDP := Lib.hid hdp
      clear hnp hdp
      obtain ⟨Q, hQ⟩ : ∃ Q, np / dp = Q := ⟨_, rfl⟩
      obtain ⟨R, hR⟩ : ∃ R, np % dp = R := ⟨_, rfl⟩
      have HQE := Lib.hid hQ
      have HRE := Lib.hid hR
      rw [hQ] at HQF
      clear hQ hR
      have HQR := Lib.hid (show nd Q ≤ 1000 ∧ nd R ≤ 1000 by
        rw [← HQE.out, ← HRE.out]
        exact ⟨Nat.le_trans (nd_mono (Nat.div_le_self _ _)) HBD2.out.1, Nat.le_trans (nd_mono (Nat.mod_le _ _)) HBD2.out.1⟩)
      go_wp2_with first
        | (go_at_call 37; refine (shl_num _ N en _ HNR.out (by have := HNB.out; omega) (by have := HEN.out; omega)).mono ?_; rintro e w3 ⟨v3, rfl, hr, ho⟩; have HN3 := Lib.hid (OwnD.num hr); rw [← HNP.out] at HN3; have HO3 := Lib.hid ho; have HD3 := Lib.hid (HDR.out.frame ho); rw [show 2 ^ j = dp from HDP.out.symm] at HD3; have HSH := Lib.hid (rfl : (0 : Nat) = 0); clear hr ho)
        | (go_at_call 55; refine (div_num _ _ np dp w3 HN3.out HD3.out (by have := HBD2.out; omega) HBD2.out.2.2).mono ?_; rintro e w4 ⟨vq, vr, rfl, h1, h2, ho⟩; rw [HQE.out] at h1; rw [HRE.out] at h2; have HQ4 := Lib.hid h1; have HR4 := Lib.hid h2; have HO4 := Lib.hid ho; clear h1 h2 ho)
        | (go_at_call 83; refine (bitsN_ vq Q w4 HQ4.out (by have := HQR.out; omega)).mono ?_; rintro e w' ⟨rfl, rfl⟩; rw [HQF.out])
      go_roundw
      case rel => exact ⟨1, by decide, by congr 1; have := HEE.out; omega, (HOD.out.trans HO3.out).trans HO4.out⟩
      case measure => have := HEE.out; simp [intOf]; omega
    · have hlog : ee + k + 52 = A.log2 := by have := HE0.out; omega
      have HQF := Lib.hid (quo_second H0.out HA.out HK.out.1 hlog)
      have HQN := Lib.hid (quo_near HA.out HK.out.1 hlog)
      obtain ⟨en, rfl⟩ : ∃ en : Nat, ee = (en : Int) := ⟨ee.toNat, by omega⟩
      rw [show (-(en : Int)).toNat = 0 by omega, show ((en : Nat) : Int).toNat = en by omega, Nat.pow_zero, Nat.mul_one] at HQF HQN
      have hp : (0 : Int) ≤ (en : Int) := by omega
      have hp2 : decide ((0 : Int) ≤ (en : Int)) = true := decide_eq_true hp
      have W3 : IntKind.i64.wrap ((en : Int) + 1) = (en : Int) + 1 := IntWalk.i64_in _ (by have := HE0.out; have := HK.out; omega)
      have HEN := Lib.hid (show en ≤ 200 by have := HE0.out; have := HK.out; omega)
      have HEE := Lib.hid hee
      have HLG := Lib.hid hlog
      have HBD2 := Lib.hid (show nd N ≤ 1000 ∧ nd (2 ^ j * 2 ^ en) ≤ 1000 ∧ (2 ^ j * 2 ^ en) ≠ 0 by
        have h1 := @nd_pow en
        have h2 := nd_mul (2 ^ j) (2 ^ en)
        have h3 := HNB.out
        have h4 := HEN.out
        refine ⟨by omega, by omega, ?_⟩
        have h5 : 0 < (2 ^ j * 2 ^ en) := by first | exact Nat.two_pow_pos _ | exact Nat.mul_pos (Nat.two_pow_pos _) (Nat.two_pow_pos _)
        omega)
      clear hs hi hee hlog
      obtain ⟨np, hnp⟩ : ∃ np, np = N := ⟨_, rfl⟩
      obtain ⟨dp, hdp⟩ : ∃ dp, dp = (2 ^ j * 2 ^ en) := ⟨_, rfl⟩
      rw [← hnp, ← hdp] at HQF HQN HBD2
      have HNP := Lib.hid hnp
      have HDP := Lib.hid hdp
      clear hnp hdp
      obtain ⟨Q, hQ⟩ : ∃ Q, np / dp = Q := ⟨_, rfl⟩
      obtain ⟨R, hR⟩ : ∃ R, np % dp = R := ⟨_, rfl⟩
      have HQE := Lib.hid hQ
      have HRE := Lib.hid hR
      rw [hQ] at HQF
      clear hQ hR
      have HQR := Lib.hid (show nd Q ≤ 1000 ∧ nd R ≤ 1000 by
        rw [← HQE.out, ← HRE.out]
        exact ⟨Nat.le_trans (nd_mono (Nat.div_le_self _ _)) HBD2.out.1, Nat.le_trans (nd_mono (Nat.mod_le _ _)) HBD2.out.1⟩)
      have HND := Lib.hid (nd_two (x := Q) (by have := HQF.out; omega) (by have := HQF.out; omega))
      have HDM := Lib.hid (digit_mod Q)
      have hc : dp < R * 2 ^ 1 ∨ (R * 2 ^ 1 = dp ∧ Q % 2 = 1) ∨ (R * 2 ^ 1 = dp ∧ Q % 2 = 0) ∨ R * 2 ^ 1 < dp := by omega
      rcases hc with hc | hc | hc | hc
      · have HT := Lib.hid (show cmpNat (R * 2 ^ 1) dp = 1 from cmp_is_gt hc)
        have HRN := Lib.hid (show near2 A (52 - A.log2) = (Q + 1) by
          rw [← HRE.out] at hc
          rw [← HQN.out, rne_up (.inl hc), HQE.out])
        clear hc
        have HND2 := Lib.hid (nd_two (x := Q + 1) (by have := HQF.out; omega) (by have := HQF.out; omega))
        go_wp2_with first
          | (have hq := HSH; clear hq; go_at_call 37; refine (shl_num _ R 1 w4 HR4.out (by have := HQR.out; omega) (by decide)).mono ?_; rintro e w5 ⟨v5, rfl, hr, ho⟩; have HR5 := Lib.hid (OwnD.num hr); have HO5 := Lib.hid ho; clear hr ho)
          | (go_at_call 37; refine (shl_num _ (2 ^ j) en _ HDR.out (by have := HNB.out; omega) (by have := HEN.out; omega)).mono ?_; rintro e w3 ⟨v3, rfl, hr, ho⟩; have HD3 := Lib.hid (OwnD.num hr); rw [← HDP.out] at HD3; have HO3 := Lib.hid ho; have HN3 := Lib.hid (HNR.out.frame ho); rw [show N = np from HNP.out.symm] at HN3; have HSH := Lib.hid (rfl : (0 : Nat) = 0); clear hr ho)
          | (go_at_call 55; refine (div_num _ _ np dp w3 HN3.out HD3.out (by have := HBD2.out; omega) HBD2.out.2.2).mono ?_; rintro e w4 ⟨vq, vr, rfl, h1, h2, ho⟩; rw [HQE.out] at h1; rw [HRE.out] at h2; obtain ⟨bq, oq, cq, rfl, gq0, gq1⟩ := h1.two HND.out; have HG0 := Lib.hid gq0; have HG1 := Lib.hid gq1; clear gq0 gq1; have HQ4 := Lib.hid h1; have HR4 := Lib.hid h2; have HO4 := Lib.hid ho; clear h1 h2 ho)
          | (go_at_call 83; refine (bitsN_ _ Q w4 HQ4.out (by have := HQR.out; omega)).mono ?_; rintro e w' ⟨rfl, rfl⟩; rw [HQF.out.1])
          | (go_at_call 57; refine (cmp_ _ _ (R * 2 ^ 1) dp w5 HR5.out ((HD3.out.frame HO4.out).frame HO5.out) (by have := HQR.out; have := nd_mul R (2 ^ 1); have := @nd_pow 1; omega)).mono ?_; rintro e w6 ⟨rfl, ho⟩; rw [HT.out]; have HO6 := Lib.hid (HO5.out.trans ho); have gq := cell_keep HG0.out HO6.out; clear ho)
          | (go_at_call 38; refine (word_ 1 (by decide) w6).mono ?_; rintro e w7 ⟨v7, rfl, hr, ho⟩; have HW7 := Lib.hid hr; have HO7 := Lib.hid ho; clear hr ho)
          | (go_at_call 56; refine (add_num _ v7 Q 1 w7 ((HQ4.out.frame HO6.out).frame HO7.out) HW7.out (by have := HQR.out; omega) (by decide)).mono ?_; rintro e w8 ⟨v8, rfl, hr, ho⟩; have HO8 := Lib.hid ho; obtain ⟨bz, oz, cz, rfl, z0, z1⟩ := hr.two HND2.out; have HZ0 := Lib.hid z0; have HZ1 := Lib.hid z1; clear hr ho z0 z1)
          | (go_at_call 90; refine (limbs_two bz oz cz (Q + 1) w8 (by have := HQF.out; omega) HZ0.out HZ1.out).mono ?_; rintro e w9 ⟨g9, c9, rfl, hc9, hcell, ho⟩; have HO9 := Lib.hid ho; clear ho)
        go_ret2
        rw [HRN.out]
        refine ⟨?_, (HO0.out.trans (((((HOD.out.trans HO3.out).trans HO4.out).trans HO6.out).trans HO7.out).trans HO8.out)).trans HO9.out⟩
        have hfin : (A.log2 : Int) - 52 - k = ((en : Nat) : Int) := by have := HLG.out; omega
        rw [hfin]
        first | done | rfl
      · have HT := Lib.hid (show cmpNat (R * 2 ^ 1) dp = 0 from cmp_is_eq hc.1)
        have HRN := Lib.hid (show near2 A (52 - A.log2) = (Q + 1) by
          rw [← HRE.out, ← HQE.out] at hc
          rw [← HQN.out, rne_up (.inr hc), HQE.out])
        have hmd : (((dg Q 0 : Nat) : Int) % 2 == 1) = true := by rw [← Int.tmod_eq_emod_of_nonneg (by omega), HDM.out, hc.2]; rfl
        clear hc
        have HND2 := Lib.hid (nd_two (x := Q + 1) (by have := HQF.out; omega) (by have := HQF.out; omega))
        go_wp2_with first
          | (have hq := HSH; clear hq; go_at_call 37; refine (shl_num _ R 1 w4 HR4.out (by have := HQR.out; omega) (by decide)).mono ?_; rintro e w5 ⟨v5, rfl, hr, ho⟩; have HR5 := Lib.hid (OwnD.num hr); have HO5 := Lib.hid ho; clear hr ho)
          | (go_at_call 37; refine (shl_num _ (2 ^ j) en _ HDR.out (by have := HNB.out; omega) (by have := HEN.out; omega)).mono ?_; rintro e w3 ⟨v3, rfl, hr, ho⟩; have HD3 := Lib.hid (OwnD.num hr); rw [← HDP.out] at HD3; have HO3 := Lib.hid ho; have HN3 := Lib.hid (HNR.out.frame ho); rw [show N = np from HNP.out.symm] at HN3; have HSH := Lib.hid (rfl : (0 : Nat) = 0); clear hr ho)
          | (go_at_call 55; refine (div_num _ _ np dp w3 HN3.out HD3.out (by have := HBD2.out; omega) HBD2.out.2.2).mono ?_; rintro e w4 ⟨vq, vr, rfl, h1, h2, ho⟩; rw [HQE.out] at h1; rw [HRE.out] at h2; obtain ⟨bq, oq, cq, rfl, gq0, gq1⟩ := h1.two HND.out; have HG0 := Lib.hid gq0; have HG1 := Lib.hid gq1; clear gq0 gq1; have HQ4 := Lib.hid h1; have HR4 := Lib.hid h2; have HO4 := Lib.hid ho; clear h1 h2 ho)
          | (go_at_call 83; refine (bitsN_ _ Q w4 HQ4.out (by have := HQR.out; omega)).mono ?_; rintro e w' ⟨rfl, rfl⟩; rw [HQF.out.1])
          | (go_at_call 57; refine (cmp_ _ _ (R * 2 ^ 1) dp w5 HR5.out ((HD3.out.frame HO4.out).frame HO5.out) (by have := HQR.out; have := nd_mul R (2 ^ 1); have := @nd_pow 1; omega)).mono ?_; rintro e w6 ⟨rfl, ho⟩; rw [HT.out]; have HO6 := Lib.hid (HO5.out.trans ho); have gq := cell_keep HG0.out HO6.out; clear ho)
          | (go_at_call 38; refine (word_ 1 (by decide) w6).mono ?_; rintro e w7 ⟨v7, rfl, hr, ho⟩; have HW7 := Lib.hid hr; have HO7 := Lib.hid ho; clear hr ho)
          | (go_at_call 56; refine (add_num _ v7 Q 1 w7 ((HQ4.out.frame HO6.out).frame HO7.out) HW7.out (by have := HQR.out; omega) (by decide)).mono ?_; rintro e w8 ⟨v8, rfl, hr, ho⟩; have HO8 := Lib.hid ho; obtain ⟨bz, oz, cz, rfl, z0, z1⟩ := hr.two HND2.out; have HZ0 := Lib.hid z0; have HZ1 := Lib.hid z1; clear hr ho z0 z1)
          | (go_at_call 90; refine (limbs_two bz oz cz (Q + 1) w8 (by have := HQF.out; omega) HZ0.out HZ1.out).mono ?_; rintro e w9 ⟨g9, c9, rfl, hc9, hcell, ho⟩; have HO9 := Lib.hid ho; clear ho)
        go_ret2
        rw [HRN.out]
        refine ⟨?_, (HO0.out.trans (((((HOD.out.trans HO3.out).trans HO4.out).trans HO6.out).trans HO7.out).trans HO8.out)).trans HO9.out⟩
        have hfin : (A.log2 : Int) - 52 - k = ((en : Nat) : Int) := by have := HLG.out; omega
        rw [hfin]
        first | done | rfl
      · have HT := Lib.hid (show cmpNat (R * 2 ^ 1) dp = 0 from cmp_is_eq hc.1)
        have HRN := Lib.hid (show near2 A (52 - A.log2) = Q by
          rw [← HRE.out, ← HQE.out] at hc
          rw [← HQN.out, rne_down (.inr hc), HQE.out])
        have hmd : (((dg Q 0 : Nat) : Int) % 2 == 1) = false := by rw [← Int.tmod_eq_emod_of_nonneg (by omega), HDM.out, hc.2]; rfl
        clear hc
        go_wp2_with first
          | (have hq := HSH; clear hq; go_at_call 37; refine (shl_num _ R 1 w4 HR4.out (by have := HQR.out; omega) (by decide)).mono ?_; rintro e w5 ⟨v5, rfl, hr, ho⟩; have HR5 := Lib.hid (OwnD.num hr); have HO5 := Lib.hid ho; clear hr ho)
          | (go_at_call 37; refine (shl_num _ (2 ^ j) en _ HDR.out (by have := HNB.out; omega) (by have := HEN.out; omega)).mono ?_; rintro e w3 ⟨v3, rfl, hr, ho⟩; have HD3 := Lib.hid (OwnD.num hr); rw [← HDP.out] at HD3; have HO3 := Lib.hid ho; have HN3 := Lib.hid (HNR.out.frame ho); rw [show N = np from HNP.out.symm] at HN3; have HSH := Lib.hid (rfl : (0 : Nat) = 0); clear hr ho)
          | (go_at_call 55; refine (div_num _ _ np dp w3 HN3.out HD3.out (by have := HBD2.out; omega) HBD2.out.2.2).mono ?_; rintro e w4 ⟨vq, vr, rfl, h1, h2, ho⟩; rw [HQE.out] at h1; rw [HRE.out] at h2; obtain ⟨bq, oq, cq, rfl, gq0, gq1⟩ := h1.two HND.out; have HG0 := Lib.hid gq0; have HG1 := Lib.hid gq1; clear gq0 gq1; have HQ4 := Lib.hid h1; have HR4 := Lib.hid h2; have HO4 := Lib.hid ho; clear h1 h2 ho)
          | (go_at_call 83; refine (bitsN_ _ Q w4 HQ4.out (by have := HQR.out; omega)).mono ?_; rintro e w' ⟨rfl, rfl⟩; rw [HQF.out.1])
          | (go_at_call 57; refine (cmp_ _ _ (R * 2 ^ 1) dp w5 HR5.out ((HD3.out.frame HO4.out).frame HO5.out) (by have := HQR.out; have := nd_mul R (2 ^ 1); have := @nd_pow 1; omega)).mono ?_; rintro e w6 ⟨rfl, ho⟩; rw [HT.out]; have HO6 := Lib.hid (HO5.out.trans ho); have gq := cell_keep HG0.out HO6.out; clear ho)
          | (go_at_call 90; refine (limbs_two bq oq cq Q w6 (by have := HQF.out; omega) (cell_keep HG0.out HO6.out) (cell_keep HG1.out HO6.out)).mono ?_; rintro e w9 ⟨g9, c9, rfl, hc9, hcell, ho⟩; have HO9 := Lib.hid ho; clear ho)
        go_ret2
        rw [HRN.out]
        refine ⟨?_, (HO0.out.trans (((HOD.out.trans HO3.out).trans HO4.out).trans HO6.out)).trans HO9.out⟩
        have hfin : (A.log2 : Int) - 52 - k = ((en : Nat) : Int) := by have := HLG.out; omega
        rw [hfin]
        first | done | rfl
      · have HT := Lib.hid (show cmpNat (R * 2 ^ 1) dp = -1 from cmp_lt hc)
        have HRN := Lib.hid (show near2 A (52 - A.log2) = Q by
          rw [← HRE.out] at hc
          rw [← HQN.out, rne_down (.inl hc), HQE.out])
        clear hc
        go_wp2_with first
          | (have hq := HSH; clear hq; go_at_call 37; refine (shl_num _ R 1 w4 HR4.out (by have := HQR.out; omega) (by decide)).mono ?_; rintro e w5 ⟨v5, rfl, hr, ho⟩; have HR5 := Lib.hid (OwnD.num hr); have HO5 := Lib.hid ho; clear hr ho)
          | (go_at_call 37; refine (shl_num _ (2 ^ j) en _ HDR.out (by have := HNB.out; omega) (by have := HEN.out; omega)).mono ?_; rintro e w3 ⟨v3, rfl, hr, ho⟩; have HD3 := Lib.hid (OwnD.num hr); rw [← HDP.out] at HD3; have HO3 := Lib.hid ho; have HN3 := Lib.hid (HNR.out.frame ho); rw [show N = np from HNP.out.symm] at HN3; have HSH := Lib.hid (rfl : (0 : Nat) = 0); clear hr ho)
          | (go_at_call 55; refine (div_num _ _ np dp w3 HN3.out HD3.out (by have := HBD2.out; omega) HBD2.out.2.2).mono ?_; rintro e w4 ⟨vq, vr, rfl, h1, h2, ho⟩; rw [HQE.out] at h1; rw [HRE.out] at h2; obtain ⟨bq, oq, cq, rfl, gq0, gq1⟩ := h1.two HND.out; have HG0 := Lib.hid gq0; have HG1 := Lib.hid gq1; clear gq0 gq1; have HQ4 := Lib.hid h1; have HR4 := Lib.hid h2; have HO4 := Lib.hid ho; clear h1 h2 ho)
          | (go_at_call 83; refine (bitsN_ _ Q w4 HQ4.out (by have := HQR.out; omega)).mono ?_; rintro e w' ⟨rfl, rfl⟩; rw [HQF.out.1])
          | (go_at_call 57; refine (cmp_ _ _ (R * 2 ^ 1) dp w5 HR5.out ((HD3.out.frame HO4.out).frame HO5.out) (by have := HQR.out; have := nd_mul R (2 ^ 1); have := @nd_pow 1; omega)).mono ?_; rintro e w6 ⟨rfl, ho⟩; rw [HT.out]; have HO6 := Lib.hid (HO5.out.trans ho); have gq := cell_keep HG0.out HO6.out; clear ho)
          | (go_at_call 90; refine (limbs_two bq oq cq Q w6 (by have := HQF.out; omega) (cell_keep HG0.out HO6.out) (cell_keep HG1.out HO6.out)).mono ?_; rintro e w9 ⟨g9, c9, rfl, hc9, hcell, ho⟩; have HO9 := Lib.hid ho; clear ho)
        go_ret2
        rw [HRN.out]
        refine ⟨?_, (HO0.out.trans (((HOD.out.trans HO3.out).trans HO4.out).trans HO6.out)).trans HO9.out⟩
        have hfin : (A.log2 : Int) - 52 - k = ((en : Nat) : Int) := by have := HLG.out; omega
        rw [hfin]
        first | done | rfl
    · have hlog : ee + k + 52 = A.log2 := by have := HE0.out; omega
      have HQF := Lib.hid (quo_second H0.out HA.out HK.out.1 hlog)
      have HQN := Lib.hid (quo_near HA.out HK.out.1 hlog)
      obtain ⟨en, rfl⟩ : ∃ en : Nat, ee = -(en : Int) := ⟨(-ee).toNat, by omega⟩
      rw [show (-(-(en : Int))).toNat = en by omega, show (-((en : Nat) : Int)).toNat = 0 by omega, Nat.pow_zero, Nat.mul_one] at HQF HQN
      have hp : ¬ (0 : Int) ≤ -(en : Int) := by omega
      have hp2 : decide ((0 : Int) ≤ -(en : Int)) = false := decide_eq_false hp
      have W4 : IntKind.i64.wrap (en : Int) = (en : Int) := IntWalk.i64_in _ (by have := HE0.out; have := HK.out; omega)
      have W3 : IntKind.i64.wrap (-(en : Int) + 1) = -(en : Int) + 1 := IntWalk.i64_in _ (by have := HE0.out; have := HK.out; omega)
      have HEN := Lib.hid (show en ≤ 200 by have := HE0.out; have := HK.out; omega)
      have HEE := Lib.hid hee
      have HLG := Lib.hid hlog
      have HBD2 := Lib.hid (show nd (N * 2 ^ en) ≤ 1000 ∧ nd (2 ^ j) ≤ 1000 ∧ (2 ^ j) ≠ 0 by
        have h1 := @nd_pow en
        have h2 := nd_mul N (2 ^ en)
        have h3 := HNB.out
        have h4 := HEN.out
        refine ⟨by omega, by omega, ?_⟩
        have h5 : 0 < (2 ^ j) := by first | exact Nat.two_pow_pos _ | exact Nat.mul_pos (Nat.two_pow_pos _) (Nat.two_pow_pos _)
        omega)
      clear hs hi hee hlog
      obtain ⟨np, hnp⟩ : ∃ np, np = (N * 2 ^ en) := ⟨_, rfl⟩
      obtain ⟨dp, hdp⟩ : ∃ dp, dp = (2 ^ j) := ⟨_, rfl⟩
      rw [← hnp, ← hdp] at HQF HQN HBD2
      have HNP := Lib.hid hnp
      have HDP := Lib.hid hdp
      clear hnp hdp
      obtain ⟨Q, hQ⟩ : ∃ Q, np / dp = Q := ⟨_, rfl⟩
      obtain ⟨R, hR⟩ : ∃ R, np % dp = R := ⟨_, rfl⟩
      have HQE := Lib.hid hQ
      have HRE := Lib.hid hR
      rw [hQ] at HQF
      clear hQ hR
      have HQR := Lib.hid (show nd Q ≤ 1000 ∧ nd R ≤ 1000 by
        rw [← HQE.out, ← HRE.out]
        exact ⟨Nat.le_trans (nd_mono (Nat.div_le_self _ _)) HBD2.out.1, Nat.le_trans (nd_mono (Nat.mod_le _ _)) HBD2.out.1⟩)
      have HND := Lib.hid (nd_two (x := Q) (by have := HQF.out; omega) (by have := HQF.out; omega))
      have HDM := Lib.hid (digit_mod Q)
      have hc : dp < R * 2 ^ 1 ∨ (R * 2 ^ 1 = dp ∧ Q % 2 = 1) ∨ (R * 2 ^ 1 = dp ∧ Q % 2 = 0) ∨ R * 2 ^ 1 < dp := by omega
      rcases hc with hc | hc | hc | hc
      · have HT := Lib.hid (show cmpNat (R * 2 ^ 1) dp = 1 from cmp_is_gt hc)
        have HRN := Lib.hid (show near2 A (52 - A.log2) = (Q + 1) by
          rw [← HRE.out] at hc
          rw [← HQN.out, rne_up (.inl hc), HQE.out])
        clear hc
        have HND2 := Lib.hid (nd_two (x := Q + 1) (by have := HQF.out; omega) (by have := HQF.out; omega))
        go_wp2_with first
          | (have hq := HSH; clear hq; go_at_call 37; refine (shl_num _ R 1 w4 HR4.out (by have := HQR.out; omega) (by decide)).mono ?_; rintro e w5 ⟨v5, rfl, hr, ho⟩; have HR5 := Lib.hid (OwnD.num hr); have HO5 := Lib.hid ho; clear hr ho)
          | (go_at_call 37; refine (shl_num _ N en _ HNR.out (by have := HNB.out; omega) (by have := HEN.out; omega)).mono ?_; rintro e w3 ⟨v3, rfl, hr, ho⟩; have HN3 := Lib.hid (OwnD.num hr); rw [← HNP.out] at HN3; have HO3 := Lib.hid ho; have HD3 := Lib.hid (HDR.out.frame ho); rw [show 2 ^ j = dp from HDP.out.symm] at HD3; have HSH := Lib.hid (rfl : (0 : Nat) = 0); clear hr ho)
          | (go_at_call 55; refine (div_num _ _ np dp w3 HN3.out HD3.out (by have := HBD2.out; omega) HBD2.out.2.2).mono ?_; rintro e w4 ⟨vq, vr, rfl, h1, h2, ho⟩; rw [HQE.out] at h1; rw [HRE.out] at h2; obtain ⟨bq, oq, cq, rfl, gq0, gq1⟩ := h1.two HND.out; have HG0 := Lib.hid gq0; have HG1 := Lib.hid gq1; clear gq0 gq1; have HQ4 := Lib.hid h1; have HR4 := Lib.hid h2; have HO4 := Lib.hid ho; clear h1 h2 ho)
          | (go_at_call 83; refine (bitsN_ _ Q w4 HQ4.out (by have := HQR.out; omega)).mono ?_; rintro e w' ⟨rfl, rfl⟩; rw [HQF.out.1])
          | (go_at_call 57; refine (cmp_ _ _ (R * 2 ^ 1) dp w5 HR5.out ((HD3.out.frame HO4.out).frame HO5.out) (by have := HQR.out; have := nd_mul R (2 ^ 1); have := @nd_pow 1; omega)).mono ?_; rintro e w6 ⟨rfl, ho⟩; rw [HT.out]; have HO6 := Lib.hid (HO5.out.trans ho); have gq := cell_keep HG0.out HO6.out; clear ho)
          | (go_at_call 38; refine (word_ 1 (by decide) w6).mono ?_; rintro e w7 ⟨v7, rfl, hr, ho⟩; have HW7 := Lib.hid hr; have HO7 := Lib.hid ho; clear hr ho)
          | (go_at_call 56; refine (add_num _ v7 Q 1 w7 ((HQ4.out.frame HO6.out).frame HO7.out) HW7.out (by have := HQR.out; omega) (by decide)).mono ?_; rintro e w8 ⟨v8, rfl, hr, ho⟩; have HO8 := Lib.hid ho; obtain ⟨bz, oz, cz, rfl, z0, z1⟩ := hr.two HND2.out; have HZ0 := Lib.hid z0; have HZ1 := Lib.hid z1; clear hr ho z0 z1)
          | (go_at_call 90; refine (limbs_two bz oz cz (Q + 1) w8 (by have := HQF.out; omega) HZ0.out HZ1.out).mono ?_; rintro e w9 ⟨g9, c9, rfl, hc9, hcell, ho⟩; have HO9 := Lib.hid ho; clear ho)
        go_ret2
        rw [HRN.out]
        refine ⟨?_, (HO0.out.trans (((((HOD.out.trans HO3.out).trans HO4.out).trans HO6.out).trans HO7.out).trans HO8.out)).trans HO9.out⟩
        have hfin : (A.log2 : Int) - 52 - k = (-((en : Nat) : Int)) := by have := HLG.out; omega
        rw [hfin]
        first | done | rfl
      · have HT := Lib.hid (show cmpNat (R * 2 ^ 1) dp = 0 from cmp_is_eq hc.1)
        have HRN := Lib.hid (show near2 A (52 - A.log2) = (Q + 1) by
          rw [← HRE.out, ← HQE.out] at hc
          rw [← HQN.out, rne_up (.inr hc), HQE.out])
        have hmd : (((dg Q 0 : Nat) : Int) % 2 == 1) = true := by rw [← Int.tmod_eq_emod_of_nonneg (by omega), HDM.out, hc.2]; rfl
        clear hc
        have HND2 := Lib.hid (nd_two (x := Q + 1) (by have := HQF.out; omega) (by have := HQF.out; omega))
        go_wp2_with first
          | (have hq := HSH; clear hq; go_at_call 37; refine (shl_num _ R 1 w4 HR4.out (by have := HQR.out; omega) (by decide)).mono ?_; rintro e w5 ⟨v5, rfl, hr, ho⟩; have HR5 := Lib.hid (OwnD.num hr); have HO5 := Lib.hid ho; clear hr ho)
          | (go_at_call 37; refine (shl_num _ N en _ HNR.out (by have := HNB.out; omega) (by have := HEN.out; omega)).mono ?_; rintro e w3 ⟨v3, rfl, hr, ho⟩; have HN3 := Lib.hid (OwnD.num hr); rw [← HNP.out] at HN3; have HO3 := Lib.hid ho; have HD3 := Lib.hid (HDR.out.frame ho); rw [show 2 ^ j = dp from HDP.out.symm] at HD3; have HSH := Lib.hid (rfl : (0 : Nat) = 0); clear hr ho)
          | (go_at_call 55; refine (div_num _ _ np dp w3 HN3.out HD3.out (by have := HBD2.out; omega) HBD2.out.2.2).mono ?_; rintro e w4 ⟨vq, vr, rfl, h1, h2, ho⟩; rw [HQE.out] at h1; rw [HRE.out] at h2; obtain ⟨bq, oq, cq, rfl, gq0, gq1⟩ := h1.two HND.out; have HG0 := Lib.hid gq0; have HG1 := Lib.hid gq1; clear gq0 gq1; have HQ4 := Lib.hid h1; have HR4 := Lib.hid h2; have HO4 := Lib.hid ho; clear h1 h2 ho)
          | (go_at_call 83; refine (bitsN_ _ Q w4 HQ4.out (by have := HQR.out; omega)).mono ?_; rintro e w' ⟨rfl, rfl⟩; rw [HQF.out.1])
          | (go_at_call 57; refine (cmp_ _ _ (R * 2 ^ 1) dp w5 HR5.out ((HD3.out.frame HO4.out).frame HO5.out) (by have := HQR.out; have := nd_mul R (2 ^ 1); have := @nd_pow 1; omega)).mono ?_; rintro e w6 ⟨rfl, ho⟩; rw [HT.out]; have HO6 := Lib.hid (HO5.out.trans ho); have gq := cell_keep HG0.out HO6.out; clear ho)
          | (go_at_call 38; refine (word_ 1 (by decide) w6).mono ?_; rintro e w7 ⟨v7, rfl, hr, ho⟩; have HW7 := Lib.hid hr; have HO7 := Lib.hid ho; clear hr ho)
          | (go_at_call 56; refine (add_num _ v7 Q 1 w7 ((HQ4.out.frame HO6.out).frame HO7.out) HW7.out (by have := HQR.out; omega) (by decide)).mono ?_; rintro e w8 ⟨v8, rfl, hr, ho⟩; have HO8 := Lib.hid ho; obtain ⟨bz, oz, cz, rfl, z0, z1⟩ := hr.two HND2.out; have HZ0 := Lib.hid z0; have HZ1 := Lib.hid z1; clear hr ho z0 z1)
          | (go_at_call 90; refine (limbs_two bz oz cz (Q + 1) w8 (by have := HQF.out; omega) HZ0.out HZ1.out).mono ?_; rintro e w9 ⟨g9, c9, rfl, hc9, hcell, ho⟩; have HO9 := Lib.hid ho; clear ho)
        go_ret2
        rw [HRN.out]
        refine ⟨?_, (HO0.out.trans (((((HOD.out.trans HO3.out).trans HO4.out).trans HO6.out).trans HO7.out).trans HO8.out)).trans HO9.out⟩
        have hfin : (A.log2 : Int) - 52 - k = (-((en : Nat) : Int)) := by have := HLG.out; omega
        rw [hfin]
        first | done | rfl
      · have HT := Lib.hid (show cmpNat (R * 2 ^ 1) dp = 0 from cmp_is_eq hc.1)
        have HRN := Lib.hid (show near2 A (52 - A.log2) = Q by
          rw [← HRE.out, ← HQE.out] at hc
          rw [← HQN.out, rne_down (.inr hc), HQE.out])
        have hmd : (((dg Q 0 : Nat) : Int) % 2 == 1) = false := by rw [← Int.tmod_eq_emod_of_nonneg (by omega), HDM.out, hc.2]; rfl
        clear hc
        go_wp2_with first
          | (have hq := HSH; clear hq; go_at_call 37; refine (shl_num _ R 1 w4 HR4.out (by have := HQR.out; omega) (by decide)).mono ?_; rintro e w5 ⟨v5, rfl, hr, ho⟩; have HR5 := Lib.hid (OwnD.num hr); have HO5 := Lib.hid ho; clear hr ho)
          | (go_at_call 37; refine (shl_num _ N en _ HNR.out (by have := HNB.out; omega) (by have := HEN.out; omega)).mono ?_; rintro e w3 ⟨v3, rfl, hr, ho⟩; have HN3 := Lib.hid (OwnD.num hr); rw [← HNP.out] at HN3; have HO3 := Lib.hid ho; have HD3 := Lib.hid (HDR.out.frame ho); rw [show 2 ^ j = dp from HDP.out.symm] at HD3; have HSH := Lib.hid (rfl : (0 : Nat) = 0); clear hr ho)
          | (go_at_call 55; refine (div_num _ _ np dp w3 HN3.out HD3.out (by have := HBD2.out; omega) HBD2.out.2.2).mono ?_; rintro e w4 ⟨vq, vr, rfl, h1, h2, ho⟩; rw [HQE.out] at h1; rw [HRE.out] at h2; obtain ⟨bq, oq, cq, rfl, gq0, gq1⟩ := h1.two HND.out; have HG0 := Lib.hid gq0; have HG1 := Lib.hid gq1; clear gq0 gq1; have HQ4 := Lib.hid h1; have HR4 := Lib.hid h2; have HO4 := Lib.hid ho; clear h1 h2 ho)
          | (go_at_call 83; refine (bitsN_ _ Q w4 HQ4.out (by have := HQR.out; omega)).mono ?_; rintro e w' ⟨rfl, rfl⟩; rw [HQF.out.1])
          | (go_at_call 57; refine (cmp_ _ _ (R * 2 ^ 1) dp w5 HR5.out ((HD3.out.frame HO4.out).frame HO5.out) (by have := HQR.out; have := nd_mul R (2 ^ 1); have := @nd_pow 1; omega)).mono ?_; rintro e w6 ⟨rfl, ho⟩; rw [HT.out]; have HO6 := Lib.hid (HO5.out.trans ho); have gq := cell_keep HG0.out HO6.out; clear ho)
          | (go_at_call 90; refine (limbs_two bq oq cq Q w6 (by have := HQF.out; omega) (cell_keep HG0.out HO6.out) (cell_keep HG1.out HO6.out)).mono ?_; rintro e w9 ⟨g9, c9, rfl, hc9, hcell, ho⟩; have HO9 := Lib.hid ho; clear ho)
        go_ret2
        rw [HRN.out]
        refine ⟨?_, (HO0.out.trans (((HOD.out.trans HO3.out).trans HO4.out).trans HO6.out)).trans HO9.out⟩
        have hfin : (A.log2 : Int) - 52 - k = (-((en : Nat) : Int)) := by have := HLG.out; omega
        rw [hfin]
        first | done | rfl
      · have HT := Lib.hid (show cmpNat (R * 2 ^ 1) dp = -1 from cmp_lt hc)
        have HRN := Lib.hid (show near2 A (52 - A.log2) = Q by
          rw [← HRE.out] at hc
          rw [← HQN.out, rne_down (.inl hc), HQE.out])
        clear hc
        go_wp2_with first
          | (have hq := HSH; clear hq; go_at_call 37; refine (shl_num _ R 1 w4 HR4.out (by have := HQR.out; omega) (by decide)).mono ?_; rintro e w5 ⟨v5, rfl, hr, ho⟩; have HR5 := Lib.hid (OwnD.num hr); have HO5 := Lib.hid ho; clear hr ho)
          | (go_at_call 37; refine (shl_num _ N en _ HNR.out (by have := HNB.out; omega) (by have := HEN.out; omega)).mono ?_; rintro e w3 ⟨v3, rfl, hr, ho⟩; have HN3 := Lib.hid (OwnD.num hr); rw [← HNP.out] at HN3; have HO3 := Lib.hid ho; have HD3 := Lib.hid (HDR.out.frame ho); rw [show 2 ^ j = dp from HDP.out.symm] at HD3; have HSH := Lib.hid (rfl : (0 : Nat) = 0); clear hr ho)
          | (go_at_call 55; refine (div_num _ _ np dp w3 HN3.out HD3.out (by have := HBD2.out; omega) HBD2.out.2.2).mono ?_; rintro e w4 ⟨vq, vr, rfl, h1, h2, ho⟩; rw [HQE.out] at h1; rw [HRE.out] at h2; obtain ⟨bq, oq, cq, rfl, gq0, gq1⟩ := h1.two HND.out; have HG0 := Lib.hid gq0; have HG1 := Lib.hid gq1; clear gq0 gq1; have HQ4 := Lib.hid h1; have HR4 := Lib.hid h2; have HO4 := Lib.hid ho; clear h1 h2 ho)
          | (go_at_call 83; refine (bitsN_ _ Q w4 HQ4.out (by have := HQR.out; omega)).mono ?_; rintro e w' ⟨rfl, rfl⟩; rw [HQF.out.1])
          | (go_at_call 57; refine (cmp_ _ _ (R * 2 ^ 1) dp w5 HR5.out ((HD3.out.frame HO4.out).frame HO5.out) (by have := HQR.out; have := nd_mul R (2 ^ 1); have := @nd_pow 1; omega)).mono ?_; rintro e w6 ⟨rfl, ho⟩; rw [HT.out]; have HO6 := Lib.hid (HO5.out.trans ho); have gq := cell_keep HG0.out HO6.out; clear ho)
          | (go_at_call 90; refine (limbs_two bq oq cq Q w6 (by have := HQF.out; omega) (cell_keep HG0.out HO6.out) (cell_keep HG1.out HO6.out)).mono ?_; rintro e w9 ⟨g9, c9, rfl, hc9, hcell, ho⟩; have HO9 := Lib.hid ho; clear ho)
        go_ret2
        rw [HRN.out]
        refine ⟨?_, (HO0.out.trans (((HOD.out.trans HO3.out).trans HO4.out).trans HO6.out)).trans HO9.out⟩
        have hfin : (A.log2 : Int) - 52 - k = (-((en : Nat) : Int)) := by have := HLG.out; omega
        rw [hfin]
        first | done | rfl
end Go.Proofs.YtpamkblhdgjlcaaGreatDoor
namespace Go.Proofs.YtpamkblhdgjlcaaGreatDoor
open Go.RowKit

theorem Num.none {w : World} {v : Value} (h : Num w v 0) : ∃ A c, v = .slice A 0 c := by
  obtain ⟨A, c, hv, _⟩ := h
  exact ⟨A, c, hv⟩
set_option maxRecDepth 8000 in
set_option maxHeartbeats 8000000 in
theorem near_zero (neg : Bool) (A1 B1 : Option Addr) (l1 c1 j1 e1 j : Nat) (w : World) (hn : Num w (.slice A1 l1 c1) 0) (hd : Num w (.slice B1 j1 e1) (2 ^ j)) (hj : j ≤ 31) :
    Calls Tryz.prog 63 #[.agg #[.bool neg, .slice A1 l1 c1, .slice B1 j1 e1], .int .i64 53, .int .i64 (-1074)] w fun e w' => ∃ E : Int, e = .returned (.tuple #[.int .u64 0, .int .i64 E]) ∧ Only [] w w' := by
  have hbD := bits_pow j
  have hD1 : nd (2 ^ j) ≤ 32 := by have := @nd_pow j; omega
  obtain ⟨en, hen⟩ : ∃ en : Nat, en = j + 54 := ⟨_, rfl⟩
  have W1 : IntKind.i64.wrap (0 - ((bits (2 ^ j) : Nat) : Int)) = -(en : Int) + 53 := by
    rw [show 0 - ((bits (2 ^ j) : Nat) : Int) = -(en : Int) + 53 by omega]
    exact IntWalk.i64_in _ (by omega)
  have W1' : IntKind.i64.wrap (-((bits (2 ^ j) : Nat) : Int)) = -(en : Int) + 53 := by
    rw [show -((bits (2 ^ j) : Nat) : Int) = -(en : Int) + 53 by omega]
    exact IntWalk.i64_in _ (by omega)
  have W2 : IntKind.i64.wrap (-(en : Int)) = -(en : Int) := IntWalk.i64_in _ (by omega)
  have W4 : IntKind.i64.wrap (en : Int) = (en : Int) := IntWalk.i64_in _ (by omega)
  have hmx : (if 1074 < (en : Int) then -1074 else -(en : Int)) = -(en : Int) := if_neg (by omega)
  have HMX := Lib.hid hmx
  have hb0 : ((bits 0 : Nat) : Int) = 0 := rfl
  have hp : ¬ (0 : Int) ≤ -(en : Int) := by omega
  have hp2 : decide ((0 : Int) ≤ -(en : Int)) = false := decide_eq_false hp
  have HPD := Lib.hid (show 2 ^ j ≠ 0 by have := Nat.two_pow_pos j; omega)
  have HN := Lib.hid hn
  have HD := Lib.hid hd
  have HNB := Lib.hid (show nd (2 ^ j) ≤ 32 ∧ en ≤ 200 from ⟨hD1, by omega⟩)
  have HT := Lib.hid (show cmpNat (0 * 2 ^ 1) (2 ^ j) = -1 from cmp_lt (by have := Nat.two_pow_pos j; omega))
  clear hn hd hj hbD hD1 hmx hen
  have HBW := Lib.hid (show (w.alloc (.cells #[.bool neg, .slice A1 l1 c1, .slice B1 j1 e1] 51)).heap[w.heap.size]? = some (.cells #[.bool neg, .slice A1 l1 c1, .slice B1 j1 e1] 51 (0, 0)) from block_new _ _)
  have HO0 := Lib.hid (show Only [] w (w.alloc (.cells #[.bool neg, .slice A1 l1 c1, .slice B1 j1 e1] 51)) from (Only.refl [] w).alloc _)
  go_enter Tryz.func63, Tryz.ntmps63
  go_wp2_with fail
  generalize w.alloc (.cells #[.bool neg, .slice A1 l1 c1, .slice B1 j1 e1] 51) = w0 at *
  have HNW := Lib.hid (HN.out.frame HO0.out)
  have HDW := Lib.hid (HD.out.frame HO0.out)
  clear HN HD
  have g0 : w0.cell? ⟨w.heap.size, 1, none⟩ = some (.slice A1 l1 c1) ∧ w0.cell? ⟨w.heap.size, 2, none⟩ = some (.slice B1 j1 e1) := ⟨cell_of HBW.out 1 rfl, cell_of HBW.out 2 rfl⟩
  first
  | (go_region_held3 (fun w' => w'.cell? ⟨w.heap.size, 1, none⟩ = some (.slice A1 l1 c1) ∧ w'.cell? ⟨w.heap.size, 2, none⟩ = some (.slice B1 j1 e1)) (first | assumption | exact g0) (first
    | (have hq := HQ1; clear hq; go_at_call 83; refine (bitsN_ _ (2 ^ j) _ (HDW.out.frame (Only.refl [] w0).drew) (by have := HNB.out; omega)).mono ?_; rintro e w' ⟨rfl, rfl⟩)
    | (go_at_call 83; refine (bitsN_ _ 0 _ (HNW.out.frame (Only.refl [] w0).drew) (by decide)).mono ?_; rintro e w' ⟨rfl, rfl⟩; rw [hb0]; have HQ1 := Lib.hid (rfl : (0 : Nat) = 0))))
  | fail "region 1"
  rw [HMX.out]
  clear HMX W1 W1' HQ1
  go_wp2_with fail
  go_loopw [8] (fun ev wr => ev = .int .i64 (-(en : Int)) ∧ Only [] w0 wr) (fun ev _ => 0)
  case atStart => exact ⟨rfl, (Only.refl [] w0).drew⟩
  case round =>
    obtain ⟨rfl, ho⟩ := hrel
    have HOR := Lib.hid ho
    have g1 : wr.cell? ⟨w.heap.size, 1, none⟩ = some (.slice A1 l1 c1) ∧ wr.cell? ⟨w.heap.size, 2, none⟩ = some (.slice B1 j1 e1) := ⟨cell_keep g0.1 ho, cell_keep g0.2 ho⟩
    clear g0 ho
    go_wp2_with fail
    first
    | (go_region_held3 (fun w' => w'.cell? ⟨w.heap.size, 1, none⟩ = some (.slice A1 l1 c1) ∧ w'.cell? ⟨w.heap.size, 2, none⟩ = some (.slice B1 j1 e1)) (first | assumption | exact g1) (fail))
    | fail "region 2"
    clear g1
    have HNR := Lib.hid ((HNW.out.frame HOR.out).frame (Only.refl [] wr).drew)
    have HDR := Lib.hid ((HDW.out.frame HOR.out).frame (Only.refl [] wr).drew)
    have HOD := Lib.hid (HOR.out.drew)
    generalize wr.drew = w2 at *
    go_wp2_with first
      | (have hq := HSH; clear hq; go_at_call 37; refine (shl_num _ 0 1 w4 HR4.out (by decide) (by decide)).mono ?_; rintro e w5 ⟨v5, rfl, hr, ho⟩; have HR5 := Lib.hid (OwnD.num hr); have HO5 := Lib.hid ho; clear hr ho)
      | (go_at_call 37; refine (shl_num _ 0 en _ HNR.out (by decide) (by have := HNB.out; omega)).mono ?_; rintro e w3 ⟨v3, rfl, hr, ho⟩; have HN3 := Lib.hid (OwnD.num hr); rw [Nat.zero_mul] at HN3; have HO3 := Lib.hid ho; have HD3 := Lib.hid (HDR.out.frame ho); have HSH := Lib.hid (rfl : (0 : Nat) = 0); clear hr ho)
      | (go_at_call 55; refine (div_num _ _ 0 (2 ^ j) w3 HN3.out HD3.out (by decide) HPD.out).mono ?_; rintro e w4 ⟨vq, vr, rfl, h1, h2, ho⟩; rw [Nat.zero_div] at h1; rw [Nat.zero_mod] at h2; obtain ⟨Aq, cq, rfl⟩ := h1.none; have HQ4 := Lib.hid h1; have HR4 := Lib.hid h2; have HO4 := Lib.hid ho; clear h1 h2 ho)
      | (go_at_call 83; refine (bitsN_ _ 0 w4 HQ4.out (by decide)).mono ?_; rintro e w' ⟨rfl, rfl⟩; rw [hb0])
      | (go_at_call 57; refine (cmp_ _ _ (0 * 2 ^ 1) (2 ^ j) w5 HR5.out ((HD3.out.frame HO4.out).frame HO5.out) (by decide)).mono ?_; rintro e w6 ⟨rfl, ho⟩; rw [HT.out]; have HO6 := Lib.hid (HO5.out.trans ho); clear ho)
      | (go_at_call 90; refine (limbs_none _ _ _).mono ?_; rintro e w' ⟨rfl, rfl⟩)
    go_ret2
    exact ⟨_, rfl, HO0.out.trans (((HOD.out.trans HO3.out).trans HO4.out).trans HO6.out)⟩
end Go.Proofs.YtpamkblhdgjlcaaGreatDoor
namespace Go.Proofs.YtpamkblhdgjlcaaGreatDoor
open Go.RowKit

set_option maxRecDepth 8000 in
set_option maxHeartbeats 4000000 in
theorem pattern_zero (neg : Bool) (A1 B1 : Option Addr) (l1 c1 j1 e1 j : Nat) (w : World) (hn : Num w (.slice A1 l1 c1) 0) (hd : Num w (.slice B1 j1 e1) (2 ^ j)) (hj : j ≤ 31) :
    Calls Tryz.prog 39 #[.agg #[.bool neg, .slice A1 l1 c1, .slice B1 j1 e1], .int .i64 53, .int .i64 (-1074), .int .i64 2047] w fun e w' => e = .returned (.tuple #[.int .u64 0, .bool true]) ∧ Only [] w w' := by
  have HN := Lib.hid hn
  have HD := Lib.hid hd
  clear hn hd
  go_enter Tryz.func39, Tryz.ntmps39
  go_wp2_with first
    | (go_at_call 63; refine (near_zero neg A1 B1 l1 c1 j1 e1 j _ (HN.out.frame ((Only.refl [] w).alloc _)) (HD.out.frame ((Only.refl [] w).alloc _)) hj).mono ?_; rintro e w1 ⟨E, rfl, ho⟩; have HO1 := Lib.hid (((Only.refl [] w).alloc _).trans ho); clear ho)
  go_ret2
  exact ⟨rfl, HO1.out⟩
set_option maxRecDepth 8000 in
set_option maxHeartbeats 4000000 in
theorem pattern_num (neg : Bool) (A1 B1 : Option Addr) (l1 c1 j1 e1 N A m j k f M b : Nat) (w : World) (hn : Num w (.slice A1 l1 c1) N) (hd : Num w (.slice B1 j1 e1) (2 ^ j)) (h0 : A ≠ 0) (hA : A = N * 2 ^ m) (hk : m + j = k) (hk31 : k ≤ 31) (hL : A.log2 ≤ 63)
    (hM : near2 A (52 - A.log2) = M) (hf : (A.log2 : Int) - 52 - k = (f : Int) - 1075) (hb : f * 4503599627370496 + M = b + 4503599627370496) :
    Calls Tryz.prog 39 #[.agg #[.bool neg, .slice A1 l1 c1, .slice B1 j1 e1], .int .i64 53, .int .i64 (-1074), .int .i64 2047] w fun e w' => e = .returned (.tuple #[.int .u64 (b : Int), .bool true]) ∧ Only [] w w' := by
  have HN := Lib.hid hn
  have HD := Lib.hid hd
  have HNear := Lib.hid (fun w hn hd => near_num neg A1 B1 l1 c1 j1 e1 N A m j k w hn hd h0 hA hk hk31 hL)
  obtain ⟨hm1, hm2⟩ := digits53 A h0
  rw [hM] at hm1 hm2 HNear
  rw [hf] at HNear
  have hfl : 900 ≤ f ∧ f ≤ 1100 := by omega
  clear hn hd h0 hA hk hk31 hL hM hf
  have d1 : decide ((M : Int) < 4503599627370496) = false := decide_eq_false (by omega)
  have S1 : IntKind.u64.wrap ((f : Int) * 4503599627370496) = ((f * 4503599627370496 : Nat) : Int) := by
    have := wrap_nat (f * 4503599627370496) (by omega)
    rwa [Int.natCast_mul] at this
  have S2 : IntKind.u64.wrap (((f * 4503599627370496 : Nat) : Int) + (M : Int)) = ((b : Nat) : Int) + 4503599627370496 := by
    have := wrap_nat (f * 4503599627370496 + M) (by omega)
    rw [Int.natCast_add] at this
    rw [this, ← Int.natCast_add, hb, Int.natCast_add]
    rfl
  have hbb : b < 18446744073709551616 ∧ 4503599627370496 ≤ b := by omega
  have HB := Lib.hid hb
  have HM := Lib.hid (show 4503599627370496 ≤ M ∧ M ≤ 9007199254740992 ∧ 900 ≤ f ∧ f ≤ 1100 from ⟨hm1, hm2, hfl.1, hfl.2⟩)
  have HBB := Lib.hid hbb
  clear hb hm1 hm2 hfl hbb
  generalize ((f * 4503599627370496 : Nat) : Int) = F1 at *
  obtain ⟨MI, hMI⟩ : ∃ MI : Int, MI = (M : Int) := ⟨_, rfl⟩
  rw [← hMI] at d1 S2 HNear
  clear hMI
  obtain ⟨E, hE⟩ : ∃ E : Int, E = (f : Int) - 1075 := ⟨_, rfl⟩
  obtain ⟨E1, hE1⟩ : ∃ E1 : Int, E1 = (f : Int) - 1 := ⟨_, rfl⟩
  have X1 : wrap64 (E + 1074) = E1 := by
    rw [show E + 1074 = E1 by omega]
    exact IntWalk.wrap64_in _ (by have := HM.out; omega)
  have X2 : wrap64 (E1 + 1) = (f : Int) := by
    rw [show E1 + 1 = (f : Int) by omega]
    exact IntWalk.wrap64_in _ (by have := HM.out; omega)
  rw [← hE] at HNear
  clear hE hE1
  have U1 : IntKind.u64.wrap (f : Int) = (f : Int) := wrap_nat f (by have := HM.out; omega)
  have U2 : IntKind.u64.wrap (b : Int) = (b : Int) := wrap_nat b HBB.out.1
  have d2 : decide (2047 ≤ (f : Int)) = false := decide_eq_false (by have := HM.out; omega)
  have d2' : (f : Int) < 2047 := by have := HM.out; omega
  go_enter Tryz.func39, Tryz.ntmps39
  go_wp2_with first
    | (go_at_call 63; refine (HNear.out _ (HN.out.frame ((Only.refl [] w).alloc _)) (HD.out.frame ((Only.refl [] w).alloc _))).mono ?_; rintro e w1 ⟨rfl, ho⟩; have HO1 := Lib.hid (((Only.refl [] w).alloc _).trans ho); clear ho)
  go_region
  go_wp2_with fail
  have d3 : decide ((b : Int) / 4503599627370496 < 2047) = true := decide_eq_true (by have := HB.out; have := HM.out; omega)
  go_region
  all_goals
    go_wp2_with fail
    go_ret2
    exact ⟨rfl, HO1.out.drew.drew⟩
theorem run_from (x : Nat) (w : World) : (callFunc 5 #[.int .u64 (x : Int)]).run Tryz.prog w = .ok (.value (.float .f64 x)) w := by kernel_rfl
set_option maxRecDepth 8000 in
set_option maxHeartbeats 4000000 in
theorem near64_zero (neg : Bool) (A1 B1 : Option Addr) (l1 c1 j1 e1 j : Nat) (w : World) (hneg : neg = false) (hn : Num w (.slice A1 l1 c1) 0) (hd : Num w (.slice B1 j1 e1) (2 ^ j)) (hj : j ≤ 31) :
    Calls Tryz.prog 22 #[.agg #[.bool neg, .slice A1 l1 c1, .slice B1 j1 e1]] w fun e w' => e = .returned (.tuple #[.float .f64 0, .bool true]) ∧ Only [] w w' := by
  subst hneg
  have HN := Lib.hid hn
  have HD := Lib.hid hd
  have HBW := Lib.hid (show (w.alloc (.cells #[.bool false, .slice A1 l1 c1, .slice B1 j1 e1] 51)).heap[w.heap.size]? = some (.cells #[.bool false, .slice A1 l1 c1, .slice B1 j1 e1] 51 (0, 0)) from block_new _ _)
  have hf : ∀ w, (callFunc 5 #[.int .u64 0]).run Tryz.prog w = .ok (.value (.float .f64 0)) w := fun w => run_from 0 w
  clear hn hd
  go_enter Tryz.func22, Tryz.ntmps22
  go_wp2_with first
    | (go_at_call 39; refine (pattern_zero false A1 B1 l1 c1 j1 e1 j _ (HN.out.frame ((Only.refl [] w).alloc _)) (HD.out.frame ((Only.refl [] w).alloc _)) hj).mono ?_; rintro e w1 ⟨rfl, ho⟩; have HO1 := Lib.hid (((Only.refl [] w).alloc _).trans ho); have q0 := cell_of (ho.at HBW.out (by simp)) 0 rfl; clear ho)
  go_ret2
  exact ⟨rfl, HO1.out⟩
set_option maxRecDepth 8000 in
set_option maxHeartbeats 4000000 in
theorem near64_num (neg : Bool) (A1 B1 : Option Addr) (l1 c1 j1 e1 N A m j k f M b : Nat) (w : World) (hn : Num w (.slice A1 l1 c1) N) (hd : Num w (.slice B1 j1 e1) (2 ^ j)) (h0 : A ≠ 0) (hA : A = N * 2 ^ m) (hk : m + j = k) (hk31 : k ≤ 31) (hL : A.log2 ≤ 63)
    (hM : near2 A (52 - A.log2) = M) (hf : (A.log2 : Int) - 52 - k = (f : Int) - 1075) (hb : f * 4503599627370496 + M = b + 4503599627370496) :
    Calls Tryz.prog 22 #[.agg #[.bool neg, .slice A1 l1 c1, .slice B1 j1 e1]] w fun e w' => e = .returned (.tuple #[.float .f64 (if neg then b + 9223372036854775808 else b), .bool true]) ∧ Only [] w w' := by
  have HPat := Lib.hid (fun w hn hd => pattern_num neg A1 B1 l1 c1 j1 e1 N A m j k f M b w hn hd h0 hA hk hk31 hL hM hf hb)
  have hbb : b < 9223372036854775808 := by
    obtain ⟨hm1, hm2⟩ := digits53 A h0
    omega
  have HN := Lib.hid hn
  have HD := Lib.hid hd
  have HBW := Lib.hid (show (w.alloc (.cells #[.bool neg, .slice A1 l1 c1, .slice B1 j1 e1] 51)).heap[w.heap.size]? = some (.cells #[.bool neg, .slice A1 l1 c1, .slice B1 j1 e1] 51 (0, 0)) from block_new _ _)
  have HBB := Lib.hid hbb
  clear hn hd h0 hA hk hk31 hL hM hf hb hbb
  cases neg
  · have hf := run_from b
    go_enter Tryz.func22, Tryz.ntmps22
    go_wp2_with first
      | (go_at_call 39; refine (HPat.out _ (HN.out.frame ((Only.refl [] w).alloc _)) (HD.out.frame ((Only.refl [] w).alloc _))).mono ?_; rintro e w1 ⟨rfl, ho⟩; have HO1 := Lib.hid (((Only.refl [] w).alloc _).trans ho); have q0 := cell_of (ho.at HBW.out (by simp)) 0 rfl; clear ho)
    go_ret2
    exact ⟨rfl, HO1.out⟩
  · obtain ⟨b2, hb2⟩ : ∃ b2, b2 = b + 9223372036854775808 := ⟨_, rfl⟩
    have hf := run_from b2
    have U1 : IntKind.u64.wrap ((b : Int) + 9223372036854775808) = (b2 : Int) := by
      have := wrap_nat (b + 9223372036854775808) (by have := HBB.out; omega)
      rw [hb2, ← this, Int.natCast_add]
      rfl
    rw [if_pos rfl, ← hb2]
    clear hb2
    go_enter Tryz.func22, Tryz.ntmps22
    go_wp2_with first
      | (go_at_call 39; refine (HPat.out _ (HN.out.frame ((Only.refl [] w).alloc _)) (HD.out.frame ((Only.refl [] w).alloc _))).mono ?_; rintro e w1 ⟨rfl, ho⟩; have HO1 := Lib.hid (((Only.refl [] w).alloc _).trans ho); have q0 := cell_of (ho.at HBW.out (by simp)) 0 rfl; clear ho)
    go_ret2
    exact ⟨rfl, HO1.out⟩
end Go.Proofs.YtpamkblhdgjlcaaGreatDoor
namespace Go.Proofs.YtpamkblhdgjlcaaGreatDoor
open Go.RowKit Ieee

theorem word_sign (s : Bool) (b : Nat) : double.word s b = if s then b + 9223372036854775808 else b := by
  unfold Format.word
  rw [d_sign]
  cases s <;> simp [Nat.add_comm]
theorem near_any (v : Value) (n : Int) (k : Nat) (w : World) (h : RatAt w v n k) (hk : k ≤ 31) (hn1 : -9223372036854775808 ≤ n) (hn2 : n ≤ 9223372036854775807) :
    Calls Tryz.prog 22 #[v] w fun e w' => e = .returned (.tuple #[.float .f64 (backBits n k), .bool true]) ∧ Only [] w w' := by
  obtain ⟨p, A1, l1, c1, B1, j1, e1, rfl⟩ := h.open
  obtain ⟨hp, N, m, hn, hd, hm, he⟩ := h.parts
  by_cases h0 : n = 0
  · have hb : backBits n k = 0 := by unfold backBits; rw [if_pos h0]
    rw [hb]
    have hN : N = 0 := by
      rw [h0] at he
      rcases Nat.mul_eq_zero.1 he.symm with h' | h'
      · exact h'
      · have := Nat.two_pow_pos m; omega
    rw [hN] at hn
    exact near64_zero p A1 B1 l1 c1 j1 e1 (k - m) w (by rw [hp, h0]; rfl) hn hd (by omega)
  · have hA0 : n.natAbs ≠ 0 := by omega
    have hL : n.natAbs.log2 ≤ 63 := log2_le_of_lt _ _ hA0 (Nat.lt_of_le_of_lt (show n.natAbs ≤ 9223372036854775808 by omega) (by decide))
    obtain ⟨hm1, hm2⟩ := digits53 n.natAbs hA0
    obtain ⟨b, hb⟩ : ∃ b, b = ((n.natAbs.log2 : Int) - 52 - k + 1074).toNat * 4503599627370496 + near2 n.natAbs (52 - n.natAbs.log2) := ⟨_, rfl⟩
    have hB : backBits n k = if p then b + 9223372036854775808 else b := by
      unfold backBits backWord
      rw [if_neg h0, word_sign, hp, hb]
    rw [hB]
    exact near64_num p A1 B1 l1 c1 j1 e1 N n.natAbs m (k - m) k (((n.natAbs.log2 : Int) - 52 - k + 1074).toNat + 1) _ b w hn hd hA0 he (by omega) hk hL rfl (by omega) (by omega)
set_option maxRecDepth 8000 in
set_option maxHeartbeats 4000000 in
theorem docback_num (n : Int) (k : Nat) (h1 : 1 ≤ k) (h2 : k ≤ 31) (hn1 : -9223372036854775808 ≤ n) (hn2 : n ≤ 9223372036854775807) (w : World) :
    Calls Tryz.prog 9 #[.int .i64 n, .int .i64 k] w fun e w' => e = .returned (.tuple #[.float .f64 (backBits n k), .int .i64 0]) ∧ Only [] w w' := by
  have HN := Lib.hid (show 1 ≤ k ∧ k ≤ 31 from ⟨h1, h2⟩)
  have HI := Lib.hid (show -9223372036854775808 ≤ n ∧ n ≤ 9223372036854775807 from ⟨hn1, hn2⟩)
  have HB := Lib.hid (show nd n.natAbs ≤ 400000 from Nat.le_trans (nd_word (t := n.natAbs) (by omega)) (by decide))
  clear h1 h2 hn1 hn2
  go_enter Tryz.func9, Tryz.ntmps9
  go_wp2_with first
    | (go_at_call 16; refine (fits_yes k HN.out.1 HN.out.2 _).mono ?_; rintro e w' ⟨rfl, rfl⟩)
    | (go_at_call 24; refine (numQ_ n _ HI.out.1 HI.out.2).mono ?_; rintro e w1 ⟨x1, rfl, hr, ho⟩; have HR1 := Lib.hid hr; have HO1 := Lib.hid ho; clear hr ho)
    | (go_at_call 21; refine (scale_ k _ (by have := HN.out; omega)).mono ?_; rintro e w2 ⟨x2, rfl, hr, ho⟩; have HR2 := Lib.hid hr; have HO2 := Lib.hid ho; clear hr ho)
    | (go_at_call 23; refine (quoQ_ x1 x2 n 0 k w2 (HR1.out.frame HO2.out) HR2.out HB.out (by decide) (by have := HN.out; omega)).mono ?_; rintro e w3 ⟨x3, rfl, hr, ho⟩; rw [Nat.zero_add] at hr; have HR3 := Lib.hid hr; have HO3 := Lib.hid ho; clear hr ho)
    | (go_at_call 22; refine (near_any x3 n k w3 HR3.out HN.out.2 HI.out.1 HI.out.2).mono ?_; rintro e w4 ⟨rfl, ho⟩; have HO4 := Lib.hid ho; clear ho)
  go_ret2
  exact ⟨rfl, ((HO1.out.trans HO2.out).trans HO3.out).trans HO4.out⟩
set_option maxRecDepth 8000 in
set_option maxHeartbeats 4000000 in
theorem docback_arg (n k : Int) (h : k < 1 ∨ 31 < k) (w : World) :
    Calls Tryz.prog 9 #[.int .i64 n, .int .i64 k] w fun e w' => e = .returned (.tuple #[.float .f64 0, .int .i64 1]) ∧ w = w' := by
  have HN := Lib.hid h
  clear h
  go_enter Tryz.func9, Tryz.ntmps9
  go_wp2_with first
    | (go_at_call 16; refine (fits_no k HN.out _).mono ?_; rintro e w' ⟨rfl, rfl⟩)
  go_ret2
  exact ⟨rfl, rfl⟩
end Go.Proofs.YtpamkblhdgjlcaaGreatDoor
