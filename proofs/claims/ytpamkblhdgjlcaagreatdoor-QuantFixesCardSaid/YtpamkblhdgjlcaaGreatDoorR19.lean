/- The walks of the reference's Finite, fits, Float. -/
import Derived.Test.YtpamkblhdgjlcaaGreatDoorProg
import Derived.Test.YtpamkblhdgjlcaaGreatDoorBase
import Derived.Test.YtpamkblhdgjlcaaGreatDoorRG
import Derived.Test.YtpamkblhdgjlcaaGreatDoorM1
import Derived.WalkKit
import Derived.WalkSpells
import Derived.WalkLawsBesides
import Derived.Handy
import Derived.Deep.QuietTactic
import Derived.Deep.OwnRows
import Derived.BigQuiet
import Derived.Deep.RegionHeld3
set_option linter.unusedSimpArgs false
set_option linter.unusedVariables false
namespace Go.Proofs.YtpamkblhdgjlcaaGreatDoor
open Go.RowKit Ieee

theorem run_bits (x : Nat) (w : World) : (callFunc 10 #[.float .f64 x]).run Tryz.prog w = .ok (.value (.int .u64 (x : Int))) w := by kernel_rfl
theorem float_parts (x : Nat) (s : Bool) (m : Nat) (i : Int) (hx : x < 18446744073709551616) (h : double.read x = .number s m i) :
    ((x / 9223372036854775808 = 1) ↔ s = true) ∧ x / 4503599627370496 % 2048 < 2047 ∧ ((x / 4503599627370496 % 2048 = 0 ∧ m = x % 4503599627370496 ∧ i = -1074) ∨ (0 < x / 4503599627370496 % 2048 ∧ m = x % 4503599627370496 + 4503599627370496 ∧ i = (x / 4503599627370496 % 2048 : Nat) - 1075)) := by
  unfold Format.read at h
  rw [d_least, d_binade, d_inf, d_sign] at h
  have hs : ∀ q : Bool, (x / 9223372036854775808 % 2 == 1) = q → ((x / 9223372036854775808 = 1) ↔ q = true) := by
    rintro q rfl
    have : x / 9223372036854775808 < 2 := by omega
    simp
    omega
  simp only at h
  split at h
  · rename_i h1
    injection h with a1 a2 a3
    refine ⟨hs s a1, by omega, .inl ⟨by omega, by omega, by omega⟩⟩
  · split at h
    · rename_i h1 h2
      injection h with a1 a2 a3
      refine ⟨hs s a1, by omega, .inr ⟨by omega, by omega, by omega⟩⟩
    · split at h <;> cases h
theorem float_not (x : Nat) (hx : x < 18446744073709551616) (h : ∀ s m i, double.read x ≠ .number s m i) : x / 4503599627370496 % 2048 = 2047 := by
  unfold Format.read at h
  rw [d_least, d_binade, d_inf, d_sign] at h
  simp only at h
  split at h
  · exact absurd rfl (h _ _ _)
  · split at h
    · exact absurd rfl (h _ _ _)
    · omega
set_option maxHeartbeats 1000000 in
theorem fits_yes (k : Nat) (h1 : 1 ≤ k) (h2 : k ≤ 31) (w : World) : Calls Tryz.prog 16 #[.int .i64 (k : Int)] w fun e w' => e = .returned (.bool true) ∧ w = w' := by
  have d1 : (1 : Int) ≤ (k : Int) := by omega
  have d2 : (k : Int) ≤ 31 := by omega
  go_enter Tryz.func16, Tryz.ntmps16
  go_wp2_with fail
  go_ret
  simp
set_option maxHeartbeats 1000000 in
theorem finite_ (x : Nat) (hx : x < 18446744073709551616) (w : World) : Calls Tryz.prog 17 #[.float .f64 x] w fun e w' => e = .returned (.bool (decide (x / 4503599627370496 % 2048 < 2047))) ∧ w = w' := by
  have hb := run_bits x
  go_enter Tryz.func17, Tryz.ntmps17
  go_wp2_with fail
  go_ret
  refine ⟨?_, rfl⟩
  have : decide ((x : Int) / 4503599627370496 % 2048 < 2047) = decide (x / 4503599627370496 % 2048 < 2047) := by
    by_cases h : x / 4503599627370496 % 2048 < 2047
    · rw [decide_eq_true h, decide_eq_true (by omega)]
    · rw [decide_eq_false h, decide_eq_false (by omega)]
  rw [← this]
  rfl
set_option maxHeartbeats 1000000 in
theorem fits_no (n : Int) (h : n < 1 ∨ 31 < n) (w : World) : Calls Tryz.prog 16 #[.int .i64 n] w fun e w' => e = .returned (.bool false) ∧ w = w' := by
  by_cases h1 : n < 1
  · have d1 : ¬ (1 : Int) ≤ n := by omega
    clear h
    go_enter Tryz.func16, Tryz.ntmps16
    go_wp2_with fail
    go_ret
    simp
    try omega
  · have d1 : (1 : Int) ≤ n := by omega
    have d2 : ¬ n ≤ 31 := by omega
    clear h h1
    go_enter Tryz.func16, Tryz.ntmps16
    go_wp2_with fail
    go_ret
    simp
    try omega
set_option exponentiation.threshold 1100 in
set_option maxRecDepth 8000 in
set_option maxHeartbeats 4000000 in
theorem float_a (x E r : Nat) (s : Bool) (w : World) (hE : (x : Int) / 4503599627370496 % 2048 = (E : Int)) (hr : (x : Int) % 4503599627370496 = (r : Int)) (hs : ((x : Int) / 9223372036854775808 == 1) = s) (hrb : r < 4503599627370496) (hEb : E < 2047) (h0 : E = 0) :
    Calls Tryz.prog 20 #[.float .f64 x] w fun e w' => ∃ v, e = .returned v ∧ RatAt w' v (signed s r) 1074 ∧ Only [] w w' := by
  have hb := run_bits x
  have HB2 := Lib.hid (show (w.alloc (.cells #[.bool false, .slice none 0 0, .slice none 0 0] 51)).heap[w.heap.size]? = some (.cells #[.bool false, .slice none 0 0, .slice none 0 0] 51 (0, 0)) from block_new _ _)
  have W1 : IntKind.i64.wrap (E : Int) = (E : Int) := IntWalk.i64_in _ (by omega)
  subst h0
  have HMB := Lib.hid (show r < 18446744073709551616 by omega)
  go_enter Tryz.func20, Tryz.ntmps20
  go_wp2_with first
    | (have hq := HX1; clear hq; go_at_call 38; refine (word_ 1 (by decide) _).mono ?_; rintro e w2 ⟨x2, rfl, h1, ho⟩; have HX2 := Lib.hid h1; have HO2 := Lib.hid ho; clear ho h1)
    | (go_at_call 38; refine (word_ r HMB.out _).mono ?_; rintro e w1 ⟨x1, rfl, h1, ho⟩; have HX1 := Lib.hid h1; have HO1 := Lib.hid ho; clear ho h1)
    | (go_at_call 37; refine (shl_num x2 1 1074 w2 HX2.out (by decide) (by omega)).mono ?_; rintro e w3 ⟨x3, rfl, h1, ho⟩; have HX3 := Lib.hid (OwnD.num h1); have HO3 := Lib.hid ho; clear ho h1)
    | (go_at_call 35; refine (lay_ s x1 x3 r 1074 _ ((HX1.out.frame HO2.out).frame HO3.out) (by rw [← Nat.one_mul (2 ^ 1074)]; exact HX3.out) (Nat.le_trans (nd_word HMB.out) (by decide)) (by omega)).mono ?_; rintro e w5 ⟨x5, rfl, hr, ho⟩; obtain ⟨p3, A3, l3, c3, B3, j3, e3, rfl⟩ := hr.open; have HR3 := Lib.hid hr; have HO5 := Lib.hid (((HO1.out.trans HO2.out).trans HO3.out).trans ho); have hrb := HO5.out.at HB2.out (by simp); have r0 := cell_of hrb 0 rfl; have r1 := cell_of hrb 1 rfl; have r2 := cell_of hrb 2 rfl; have f0 := free_of hrb 0; have f1 := free_of hrb 1; have f2 := free_of hrb 2; have HRB := Lib.hid hrb; clear hr hrb ho)
  refine bodyPost_ret (v := .agg #[.bool p3, .slice A3 l3 c3, .slice B3 j3 e3]) (by simp [results, Tryz.results20, go_sem, r0, r1, r2]) rfl ⟨_, rfl, HR3.out.past HRB.out (three_only _ _ _ _ _), only_three (((Only.refl [] w).alloc _).trans HO5.out) (Nat.le_refl _) _ _ _⟩
set_option exponentiation.threshold 1100 in
set_option maxRecDepth 8000 in
set_option maxHeartbeats 4000000 in
theorem float_b (x E r : Nat) (s : Bool) (w : World) (hE : (x : Int) / 4503599627370496 % 2048 = (E : Int)) (hr : (x : Int) % 4503599627370496 = (r : Int)) (hs : ((x : Int) / 9223372036854775808 == 1) = s) (hrb : r < 4503599627370496) (hEb : E < 2047) (k : Nat) (h0 : 0 < E) (h1 : E + k = 1075) (h2 : 0 < k) :
    Calls Tryz.prog 20 #[.float .f64 x] w fun e w' => ∃ v, e = .returned v ∧ RatAt w' v (signed s (r + 4503599627370496)) k ∧ Only [] w w' := by
  have hb := run_bits x
  have HB2 := Lib.hid (show (w.alloc (.cells #[.bool false, .slice none 0 0, .slice none 0 0] 51)).heap[w.heap.size]? = some (.cells #[.bool false, .slice none 0 0, .slice none 0 0] 51 (0, 0)) from block_new _ _)
  have W1 : IntKind.i64.wrap (E : Int) = (E : Int) := IntWalk.i64_in _ (by omega)
  obtain ⟨M, hM⟩ : ∃ M, M = r + 4503599627370496 := ⟨_, rfl⟩
  have HMB := Lib.hid (show M < 18446744073709551616 by omega)
  have W2 : IntKind.u64.wrap ((r : Int) + 4503599627370496) = (M : Int) := by
    show ((r : Int) + 4503599627370496) % 18446744073709551616 = _
    omega
  have W3 : IntKind.i64.wrap ((E : Int) - 1075) = -(k : Int) := by
    rw [show (E : Int) - 1075 = -(k : Int) by omega]
    exact IntWalk.i64_in _ (by omega)
  have W4 : (E : Int) - 1075 = -(k : Int) := by omega
  have W5 : IntKind.i64.wrap (k : Int) = (k : Int) := IntWalk.i64_in _ (by omega)
  have hkz : ¬ k = 0 := by omega
  have hkz' : ¬ (0 : Int) ≤ -(k : Int) := by omega
  have HME := Lib.hid hM
  rw [← hM]
  clear hM h1
  go_enter Tryz.func20, Tryz.ntmps20
  go_wp2_with first
    | (have hq := HX1; clear hq; go_at_call 38; refine (word_ 1 (by decide) _).mono ?_; rintro e w2 ⟨x2, rfl, h1, ho⟩; have HX2 := Lib.hid h1; have HO2 := Lib.hid ho; clear ho h1)
    | (go_at_call 38; refine (word_ M HMB.out _).mono ?_; rintro e w1 ⟨x1, rfl, h1, ho⟩; have HX1 := Lib.hid h1; have HO1 := Lib.hid ho; clear ho h1)
    | (go_at_call 37; refine (shl_num x2 1 k w2 HX2.out (by decide) (by omega)).mono ?_; rintro e w3 ⟨x3, rfl, h1, ho⟩; have HX3 := Lib.hid (OwnD.num h1); have HO3 := Lib.hid ho; clear ho h1)
    | (go_at_call 35; refine (lay_ s x1 x3 M k _ ((HX1.out.frame HO2.out).frame HO3.out) (by rw [← Nat.one_mul (2 ^ k)]; exact HX3.out) (Nat.le_trans (nd_word HMB.out) (by decide)) (by omega)).mono ?_; rintro e w5 ⟨x5, rfl, hr, ho⟩; obtain ⟨p3, A3, l3, c3, B3, j3, e3, rfl⟩ := hr.open; have HR3 := Lib.hid hr; have HO5 := Lib.hid (((HO1.out.trans HO2.out).trans HO3.out).trans ho); have hrb := HO5.out.at HB2.out (by simp); have r0 := cell_of hrb 0 rfl; have r1 := cell_of hrb 1 rfl; have r2 := cell_of hrb 2 rfl; have f0 := free_of hrb 0; have f1 := free_of hrb 1; have f2 := free_of hrb 2; have HRB := Lib.hid hrb; clear hr hrb ho)
  refine bodyPost_ret (v := .agg #[.bool p3, .slice A3 l3 c3, .slice B3 j3 e3]) (by simp [results, Tryz.results20, go_sem, r0, r1, r2]) rfl ⟨_, rfl, HR3.out.past HRB.out (three_only _ _ _ _ _), only_three (((Only.refl [] w).alloc _).trans HO5.out) (Nat.le_refl _) _ _ _⟩
set_option exponentiation.threshold 1100 in
set_option maxRecDepth 8000 in
set_option maxHeartbeats 4000000 in
theorem float_c (x E r : Nat) (s : Bool) (w : World) (hE : (x : Int) / 4503599627370496 % 2048 = (E : Int)) (hr : (x : Int) % 4503599627370496 = (r : Int)) (hs : ((x : Int) / 9223372036854775808 == 1) = s) (hrb : r < 4503599627370496) (hEb : E < 2047) (k : Nat) (h0 : 0 < E) (h1 : E = 1075 + k) :
    Calls Tryz.prog 20 #[.float .f64 x] w fun e w' => ∃ v, e = .returned v ∧ RatAt w' v (signed s ((r + 4503599627370496) * 2 ^ k)) 0 ∧ Only [] w w' := by
  have hb := run_bits x
  have HB2 := Lib.hid (show (w.alloc (.cells #[.bool false, .slice none 0 0, .slice none 0 0] 51)).heap[w.heap.size]? = some (.cells #[.bool false, .slice none 0 0, .slice none 0 0] 51 (0, 0)) from block_new _ _)
  have W1 : IntKind.i64.wrap (E : Int) = (E : Int) := IntWalk.i64_in _ (by omega)
  obtain ⟨M, hM⟩ : ∃ M, M = r + 4503599627370496 := ⟨_, rfl⟩
  have HMB := Lib.hid (show M < 18446744073709551616 by omega)
  have W2 : IntKind.u64.wrap ((r : Int) + 4503599627370496) = (M : Int) := by
    show ((r : Int) + 4503599627370496) % 18446744073709551616 = _
    omega
  have W4 : (E : Int) - 1075 = (k : Int) := by omega
  have HBB := Lib.hid (show nd (M * 2 ^ k) ≤ 1000000 by
    have h3 := nd_mul M (2 ^ k)
    have h4 := nd_word HMB.out
    have h5 : nd (2 ^ k) ≤ k + 1 := nd_pow
    omega)
  have HME := Lib.hid hM
  have hkb : k ≤ 2000 := by omega
  rw [← hM]
  clear hM h1
  go_enter Tryz.func20, Tryz.ntmps20
  go_wp2_with first
    | (have hq := HX2; clear hq; go_at_call 38; refine (word_ 1 (by decide) _).mono ?_; rintro e w3 ⟨x3, rfl, h1, ho⟩; have HX3 := Lib.hid h1; have HO3 := Lib.hid ho; clear ho h1)
    | (go_at_call 38; refine (word_ M HMB.out _).mono ?_; rintro e w1 ⟨x1, rfl, h1, ho⟩; have HX1 := Lib.hid h1; have HO1 := Lib.hid ho; clear ho h1)
    | (go_at_call 37; refine (shl_num x1 M k w1 HX1.out (Nat.le_trans (nd_word HMB.out) (by decide)) (by omega)).mono ?_; rintro e w2 ⟨x2, rfl, h1, ho⟩; have HX2 := Lib.hid (OwnD.num h1); have HO2 := Lib.hid ho; clear ho h1)
    | (go_at_call 35; refine (lay_ s x2 x3 (M * 2 ^ k) 0 _ (HX2.out.frame HO3.out) (by rw [Nat.pow_zero]; exact HX3.out) HBB.out (by decide)).mono ?_; rintro e w5 ⟨x5, rfl, hr, ho⟩; obtain ⟨p3, A3, l3, c3, B3, j3, e3, rfl⟩ := hr.open; have HR3 := Lib.hid hr; have HO5 := Lib.hid (((HO1.out.trans HO2.out).trans HO3.out).trans ho); have hrb := HO5.out.at HB2.out (by simp); have r0 := cell_of hrb 0 rfl; have r1 := cell_of hrb 1 rfl; have r2 := cell_of hrb 2 rfl; have f0 := free_of hrb 0; have f1 := free_of hrb 1; have f2 := free_of hrb 2; have HRB := Lib.hid hrb; clear hr hrb ho)
  refine bodyPost_ret (v := .agg #[.bool p3, .slice A3 l3 c3, .slice B3 j3 e3]) (by simp [results, Tryz.results20, go_sem, r0, r1, r2]) rfl ⟨_, rfl, HR3.out.past HRB.out (three_only _ _ _ _ _), only_three (((Only.refl [] w).alloc _).trans HO5.out) (Nat.le_refl _) _ _ _⟩
theorem float_ (x : Nat) (s : Bool) (m : Nat) (i : Int) (w : World) (hx : x < 18446744073709551616) (h : double.read x = .number s m i) :
    Calls Tryz.prog 20 #[.float .f64 x] w fun e w' => ∃ v, e = .returned v ∧ RatAt w' v (signed s (m * 2 ^ i.toNat)) ((-i).toNat) ∧ Only [] w w' := by
  obtain ⟨hs, hb, hc⟩ := float_parts x s m i hx h
  have hE : (x : Int) / 4503599627370496 % 2048 = ((x / 4503599627370496 % 2048 : Nat) : Int) := by omega
  have hr : (x : Int) % 4503599627370496 = ((x % 4503599627370496 : Nat) : Int) := by omega
  have hsb : ((x : Int) / 9223372036854775808 == 1) = s := by
    by_cases h1 : x / 9223372036854775808 = 1
    · rw [hs.1 h1]
      simp only [beq_iff_eq]
      omega
    · have : s = false := by
        cases s
        · rfl
        · exact absurd (hs.2 rfl) h1
      rw [this]
      simp only [beq_eq_false_iff_ne, ne_eq]
      omega
  have hrb : x % 4503599627370496 < 4503599627370496 := Nat.mod_lt _ (by decide)
  rcases hc with ⟨h0, rfl, rfl⟩ | ⟨h0, rfl, rfl⟩
  · have := float_a x _ _ s w hE hr hsb hrb hb h0
    rw [show ((-1074 : Int)).toNat = 0 from rfl, show (-(-1074 : Int)).toNat = 1074 from rfl, Nat.pow_zero, Nat.mul_one]
    exact this
  · by_cases h1 : x / 4503599627370496 % 2048 < 1075
    · have := float_b x _ _ s w hE hr hsb hrb hb (1075 - x / 4503599627370496 % 2048) h0 (by omega) (by omega)
      rw [show (((x / 4503599627370496 % 2048 : Nat) : Int) - 1075).toNat = 0 by omega, show (-(((x / 4503599627370496 % 2048 : Nat) : Int) - 1075)).toNat = 1075 - x / 4503599627370496 % 2048 by omega, Nat.pow_zero, Nat.mul_one]
      exact this
    · have := float_c x _ _ s w hE hr hsb hrb hb (x / 4503599627370496 % 2048 - 1075) h0 (by omega)
      rw [show (((x / 4503599627370496 % 2048 : Nat) : Int) - 1075).toNat = x / 4503599627370496 % 2048 - 1075 by omega, show (-(((x / 4503599627370496 % 2048 : Nat) : Int) - 1075)).toNat = 0 by omega]
      exact this
end Go.Proofs.YtpamkblhdgjlcaaGreatDoor
