/- The walks of the reference's FloorQ, Num, scale. The walks of the reference's Num, scale. -/
import Derived.Test.YtpamkblhdgjlcaaGreatDoorProg
import Derived.Test.YtpamkblhdgjlcaaGreatDoorBase
import Derived.Test.YtpamkblhdgjlcaaGreatDoorR16
import Derived.WalkKit
import Derived.WalkSpells
import Derived.WalkLawsBesides
import Derived.Handy
import Derived.Deep.QuietTactic
import Derived.Deep.OwnRows
import Derived.BigQuiet
import Derived.Deep.RegionHeld3
set_option linter.unusedSimpArgs false
set_option linter.unusedVariables false
namespace Go.Proofs.YtpamkblhdgjlcaaGreatDoor
open Go.RowKit

theorem floor_pos (z : Int) (k N m : Nat) (hm : m ≤ k) (he : z.natAbs = N * 2 ^ m) (hz : ¬ z < 0) : ((N / 2 ^ (k - m) : Nat) : Int) = z / 2 ^ k := by
  have e1 : z = ((N * 2 ^ m : Nat) : Int) := by omega
  have e2 : (2 : Int) ^ k = ((2 ^ (k - m) * 2 ^ m : Nat) : Int) := by
    rw [← Nat.pow_add, Nat.sub_add_cancel hm, Int.natCast_pow]
    first | done | rfl
  rw [e1, e2, ← Int.natCast_ediv, Nat.mul_div_mul_right _ _ (Nat.pow_pos (by decide))]
theorem floor_neg (z : Int) (k N m : Nat) (hm : m ≤ k) (he : z.natAbs = N * 2 ^ m) (hz : z < 0) : -(((N / 2 ^ (k - m) + if N % 2 ^ (k - m) = 0 then 0 else 1 : Nat)) : Int) = z / 2 ^ k := by
  have hp : 0 < 2 ^ (k - m) := Nat.pow_pos (by decide)
  have e1 : z = -((N * 2 ^ m : Nat) : Int) := by omega
  have e2 : (2 : Int) ^ k = ((2 ^ (k - m) : Nat) : Int) * ((2 ^ m : Nat) : Int) := by
    rw [← Int.natCast_mul, ← Nat.pow_add, Nat.sub_add_cancel hm, Int.natCast_pow]
    first | done | rfl
  have hm0 : 0 < ((2 ^ m : Nat) : Int) := by
    have : 0 < 2 ^ m := Nat.pow_pos (by decide)
    omega
  rw [e1, e2, Int.natCast_mul, ← Int.neg_mul, Int.mul_ediv_mul_of_pos_left _ _ hm0]
  have hd := Nat.div_add_mod N (2 ^ (k - m))
  have hlt := Nat.mod_lt N hp
  generalize 2 ^ (k - m) = d at *
  generalize N / d = q at *
  generalize N % d = r at *
  have hN : (N : Int) = (d : Int) * (q : Int) + (r : Int) := by rw [← hd, Int.natCast_add, Int.natCast_mul]
  by_cases h0 : r = 0
  · rw [if_pos h0, Nat.add_zero, hN, h0]
    rw [show (-((d : Int) * (q : Int) + ((0 : Nat) : Int))) = (d : Int) * (-(q : Int)) by rw [Int.mul_neg]; simp]
    rw [Int.mul_ediv_cancel_left _ (by omega)]
  · rw [if_neg h0]
    symm
    rw [hN]
    have e3 : -((d : Int) * (q : Int) + (r : Int)) = ((d : Int) - (r : Int)) + (d : Int) * (-((q + 1 : Nat) : Int)) := by
      rw [Int.natCast_add, Int.neg_add, Int.mul_neg, Int.mul_add]
      simp
      omega
    rw [e3, Int.add_mul_ediv_left _ _ (by omega), Int.ediv_eq_zero_of_lt (by omega) (by omega), Int.zero_add]
set_option maxRecDepth 8000 in
set_option maxHeartbeats 4000000 in
theorem floor_walk (p up : Bool) (A1 B1 : Option Addr) (l1 c1 j1 e1 N d : Nat) (w : World) (hn : Num w (.slice A1 l1 c1) N) (hd : Num w (.slice B1 j1 e1) (2 ^ d)) (hN : nd N ≤ 400000) (hup : (p && decide (N % 2 ^ d ≠ 0)) = up) :
    Calls Tryz.prog 31 #[.agg #[.bool p, .slice A1 l1 c1, .slice B1 j1 e1]] w fun e w' => ∃ v, e = .returned v ∧ RatAt w' v (signed p (N / 2 ^ d + up.toNat)) 0 ∧ Only [] w w' := by
  have HN := Lib.hid hn
  have HD := Lib.hid hd
  have HB := Lib.hid hN
  have HUP := Lib.hid hup
  have HP := Lib.hid (show 2 ^ d ≠ 0 by have := Nat.pow_pos (n := d) (show 0 < 2 by decide); omega)
  have HQB := Lib.hid (show nd (N / 2 ^ d) ≤ 400000 from Nat.le_trans (nd_mono (Nat.div_le_self _ _)) hN)
  clear hn hd hN hup
  generalize hQ : N / 2 ^ d = Q at *
  generalize hR : N % 2 ^ d = R at *
  have HQE := Lib.hid hQ
  have HRE := Lib.hid hR
  clear hQ hR
  have hcase : (p = false ∧ up = false) ∨ (p = true ∧ nd R = 0 ∧ up = false) ∨ (p = true ∧ ¬ nd R = 0 ∧ up = true) := by
    have h := HUP.out
    cases p
    · exact .inl ⟨rfl, by rw [← h]; rfl⟩
    · by_cases h0 : R = 0
      · exact .inr (.inl ⟨rfl, by rw [h0]; rfl, by rw [← h, h0]; rfl⟩)
      · exact .inr (.inr ⟨rfl, nd_ne h0, by rw [← h]; simp [h0]⟩)
  rcases hcase with ⟨rfl, rfl⟩ | ⟨rfl, hr0, rfl⟩ | ⟨rfl, hr0, rfl⟩
  · rw [Bool.toNat_false, Nat.add_zero]; clear HUP
    have b0 : ((w.alloc (.cells #[.bool false, .slice A1 l1 c1, .slice B1 j1 e1] 51)).alloc (.cells #[.bool false, .slice none 0 0, .slice none 0 0] 51)).heap[w.heap.size]? = some (.cells #[.bool false, .slice A1 l1 c1, .slice B1 j1 e1] 51 (0, 0)) := block_alloc (block_new _ _)
    have b2 : ((w.alloc (.cells #[.bool false, .slice A1 l1 c1, .slice B1 j1 e1] 51)).alloc (.cells #[.bool false, .slice none 0 0, .slice none 0 0] 51)).heap[w.heap.size + 1]? = some (.cells #[.bool false, .slice none 0 0, .slice none 0 0] 51 (0, 0)) := block_newr (by simp) _
    have HO0 := Lib.hid (show Only [] w ((w.alloc (.cells #[.bool false, .slice A1 l1 c1, .slice B1 j1 e1] 51)).alloc (.cells #[.bool false, .slice none 0 0, .slice none 0 0] 51)) from ((Only.refl [] w).alloc _).alloc _)
    have HB0 := Lib.hid b0
    have HB2 := Lib.hid b2
    clear b0 b2
    go_enter Tryz.func31, Tryz.ntmps31
    go_wp2_with first
      | (go_at_call 55; refine (div_num (.slice A1 l1 c1) (.slice B1 j1 e1) N (2 ^ d) _ (HN.out.frame HO0.out) (HD.out.frame HO0.out) (by have := HB.out; omega) HP.out).mono ?_; rintro e w1 ⟨x, y, rfl, h1, h2, ho⟩; rw [HQE.out] at h1; rw [HRE.out] at h2; have HX := Lib.hid h1; have HO1 := Lib.hid ho; obtain ⟨Ay, cy, rfl, h2a, h2b, h2c⟩ := h2; have q0 := cell_of (ho.at HB0.out (by simp)) 0 rfl; have HY1 := Lib.hid (ho.at HB0.out (by simp)); have HY2 := Lib.hid (ho.at HB2.out (by simp)); clear h1 h2a h2b h2c ho)
    have g0 : w1.cell? ⟨w.heap.size, 0, none⟩ = some (.bool false) := q0
    clear q0
    go_region_held3 (fun w' => w'.cell? ⟨w.heap.size, 0, none⟩ = some (.bool false)) (first | exact g0 | exact cell_keep (by assumption) (by assumption : Only _ _ _) | exact cell_off (by assumption) (three_only _ _ _ _ _) (by omega)) (first
      | (go_at_call 38; refine (word_ 1 (by decide) _).mono ?_; rintro e w4 ⟨x4, rfl, h1, ho⟩; have HX4 := Lib.hid h1; have HO4 := Lib.hid (Only.trans (by first | exact Only.refl [] w1 | exact (Only.refl [] w1).drew) ho : Only [] w1 w4); clear h1)
      | (go_at_call 35; refine (lay_ false x x4 (Q) 0 _ (HX.out.frame HO4.out) (by rw [Nat.pow_zero]; exact HX4.out) (by have := HQB.out; omega) (by decide)).mono ?_; rintro e w5 ⟨x5, rfl, hr, ho⟩; obtain ⟨p3, A3, l3, c3, B3, j3, e3, rfl⟩ := hr.open; have HR3 := Lib.hid hr; have HO5 := Lib.hid (HO4.out.trans ho); have hrb := HO5.out.at HY2.out (by simp); have r0 := cell_of hrb 0 rfl; have r1 := cell_of hrb 1 rfl; have r2 := cell_of hrb 2 rfl; have f0 := free_of hrb 0; have f1 := free_of hrb 1; have f2 := free_of hrb 2; have HRB := Lib.hid hrb; clear hr hrb))
    all_goals
      go_wp2_with fail
      refine bodyPost_ret (v := .agg #[.bool p3, .slice A3 l3 c3, .slice B3 j3 e3]) (by simp [results, Tryz.results31, go_sem, r0, r1, r2]) rfl ⟨_, rfl, HR3.out.past HRB.out (three_only _ _ _ _ _), only_three ((HO0.out.trans HO1.out).trans HO5.out) (by omega) _ _ _⟩
  · rw [Bool.toNat_false, Nat.add_zero]; clear HUP
    have b0 : ((w.alloc (.cells #[.bool true, .slice A1 l1 c1, .slice B1 j1 e1] 51)).alloc (.cells #[.bool false, .slice none 0 0, .slice none 0 0] 51)).heap[w.heap.size]? = some (.cells #[.bool true, .slice A1 l1 c1, .slice B1 j1 e1] 51 (0, 0)) := block_alloc (block_new _ _)
    have b2 : ((w.alloc (.cells #[.bool true, .slice A1 l1 c1, .slice B1 j1 e1] 51)).alloc (.cells #[.bool false, .slice none 0 0, .slice none 0 0] 51)).heap[w.heap.size + 1]? = some (.cells #[.bool false, .slice none 0 0, .slice none 0 0] 51 (0, 0)) := block_newr (by simp) _
    have HO0 := Lib.hid (show Only [] w ((w.alloc (.cells #[.bool true, .slice A1 l1 c1, .slice B1 j1 e1] 51)).alloc (.cells #[.bool false, .slice none 0 0, .slice none 0 0] 51)) from ((Only.refl [] w).alloc _).alloc _)
    have HB0 := Lib.hid b0
    have HB2 := Lib.hid b2
    clear b0 b2
    go_enter Tryz.func31, Tryz.ntmps31
    go_wp2_with first
      | (go_at_call 55; refine (div_num (.slice A1 l1 c1) (.slice B1 j1 e1) N (2 ^ d) _ (HN.out.frame HO0.out) (HD.out.frame HO0.out) (by have := HB.out; omega) HP.out).mono ?_; rintro e w1 ⟨x, y, rfl, h1, h2, ho⟩; rw [HQE.out] at h1; rw [HRE.out] at h2; have HX := Lib.hid h1; have HO1 := Lib.hid ho; obtain ⟨Ay, cy, rfl, h2a, h2b, h2c⟩ := h2; have q0 := cell_of (ho.at HB0.out (by simp)) 0 rfl; have HY1 := Lib.hid (ho.at HB0.out (by simp)); have HY2 := Lib.hid (ho.at HB2.out (by simp)); clear h1 h2a h2b h2c ho)
    have g0 : w1.cell? ⟨w.heap.size, 0, none⟩ = some (.bool true) := q0
    clear q0
    go_region_held3 (fun w' => w'.cell? ⟨w.heap.size, 0, none⟩ = some (.bool true)) (first | exact g0 | exact cell_keep (by assumption) (by assumption : Only _ _ _) | exact cell_off (by assumption) (three_only _ _ _ _ _) (by omega)) (first
      | (go_at_call 38; refine (word_ 1 (by decide) _).mono ?_; rintro e w4 ⟨x4, rfl, h1, ho⟩; have HX4 := Lib.hid h1; have HO4 := Lib.hid (Only.trans (by first | exact Only.refl [] w1 | exact (Only.refl [] w1).drew) ho : Only [] w1 w4); clear h1)
      | (go_at_call 35; refine (lay_ true x x4 (Q) 0 _ (HX.out.frame HO4.out) (by rw [Nat.pow_zero]; exact HX4.out) (by have := HQB.out; omega) (by decide)).mono ?_; rintro e w5 ⟨x5, rfl, hr, ho⟩; obtain ⟨p3, A3, l3, c3, B3, j3, e3, rfl⟩ := hr.open; have HR3 := Lib.hid hr; have HO5 := Lib.hid (HO4.out.trans ho); have hrb := HO5.out.at HY2.out (by simp); have r0 := cell_of hrb 0 rfl; have r1 := cell_of hrb 1 rfl; have r2 := cell_of hrb 2 rfl; have f0 := free_of hrb 0; have f1 := free_of hrb 1; have f2 := free_of hrb 2; have HRB := Lib.hid hrb; clear hr hrb))
    all_goals
      go_wp2_with fail
      refine bodyPost_ret (v := .agg #[.bool p3, .slice A3 l3 c3, .slice B3 j3 e3]) (by simp [results, Tryz.results31, go_sem, r0, r1, r2]) rfl ⟨_, rfl, HR3.out.past HRB.out (three_only _ _ _ _ _), only_three ((HO0.out.trans HO1.out).trans HO5.out) (by omega) _ _ _⟩
  · rw [Bool.toNat_true]; clear HUP; have hr1 : (0 : Int) < ((nd R : Nat) : Int) := (by omega); have hr2 : 0 < nd R := (by omega)
    have b0 : ((w.alloc (.cells #[.bool true, .slice A1 l1 c1, .slice B1 j1 e1] 51)).alloc (.cells #[.bool false, .slice none 0 0, .slice none 0 0] 51)).heap[w.heap.size]? = some (.cells #[.bool true, .slice A1 l1 c1, .slice B1 j1 e1] 51 (0, 0)) := block_alloc (block_new _ _)
    have b2 : ((w.alloc (.cells #[.bool true, .slice A1 l1 c1, .slice B1 j1 e1] 51)).alloc (.cells #[.bool false, .slice none 0 0, .slice none 0 0] 51)).heap[w.heap.size + 1]? = some (.cells #[.bool false, .slice none 0 0, .slice none 0 0] 51 (0, 0)) := block_newr (by simp) _
    have HO0 := Lib.hid (show Only [] w ((w.alloc (.cells #[.bool true, .slice A1 l1 c1, .slice B1 j1 e1] 51)).alloc (.cells #[.bool false, .slice none 0 0, .slice none 0 0] 51)) from ((Only.refl [] w).alloc _).alloc _)
    have HB0 := Lib.hid b0
    have HB2 := Lib.hid b2
    clear b0 b2
    go_enter Tryz.func31, Tryz.ntmps31
    go_wp2_with first
      | (go_at_call 55; refine (div_num (.slice A1 l1 c1) (.slice B1 j1 e1) N (2 ^ d) _ (HN.out.frame HO0.out) (HD.out.frame HO0.out) (by have := HB.out; omega) HP.out).mono ?_; rintro e w1 ⟨x, y, rfl, h1, h2, ho⟩; rw [HQE.out] at h1; rw [HRE.out] at h2; have HX := Lib.hid h1; have HO1 := Lib.hid ho; obtain ⟨Ay, cy, rfl, h2a, h2b, h2c⟩ := h2; have q0 := cell_of (ho.at HB0.out (by simp)) 0 rfl; have HY1 := Lib.hid (ho.at HB0.out (by simp)); have HY2 := Lib.hid (ho.at HB2.out (by simp)); clear h1 h2a h2b h2c ho)
      | (go_at_call 38; refine (word_ 1 (by decide) _).mono ?_; rintro e w2 ⟨x2, rfl, h1, ho⟩; have HX2 := Lib.hid h1; have HO2 := Lib.hid ho; clear h1 ho)
      | (go_at_call 56; refine (add_num x x2 Q 1 _ (HX.out.frame HO2.out) HX2.out (by have := HQB.out; omega) (by decide)).mono ?_; rintro e w3 ⟨x3, rfl, h1, ho⟩; have HX3 := Lib.hid h1; have HO3 := Lib.hid (HO2.out.trans ho); have q0 := cell_of (HO3.out.at HY1.out (by simp)) 0 rfl; have hy2 := Lib.hid (HO3.out.at HY2.out (by simp)); clear HY2; have HY2 := hy2; clear hy2 h1 ho)
    have g0 : w3.cell? ⟨w.heap.size, 0, none⟩ = some (.bool true) := q0
    clear q0
    go_region_held3 (fun w' => w'.cell? ⟨w.heap.size, 0, none⟩ = some (.bool true)) (first | exact g0 | exact cell_keep (by assumption) (by assumption : Only _ _ _) | exact cell_off (by assumption) (three_only _ _ _ _ _) (by omega)) (first
      | (go_at_call 38; refine (word_ 1 (by decide) _).mono ?_; rintro e w4 ⟨x4, rfl, h1, ho⟩; have HX4 := Lib.hid h1; have HO4 := Lib.hid (Only.trans (by first | exact Only.refl [] w3 | exact (Only.refl [] w3).drew) ho : Only [] w3 w4); clear h1)
      | (go_at_call 35; refine (lay_ true x3 x4 (Q + 1) 0 _ (HX3.out.frame HO4.out) (by rw [Nat.pow_zero]; exact HX4.out) (by have := nd_add Q 1; have := HQB.out; have h1 := nd_one; omega) (by decide)).mono ?_; rintro e w5 ⟨x5, rfl, hr, ho⟩; obtain ⟨p3, A3, l3, c3, B3, j3, e3, rfl⟩ := hr.open; have HR3 := Lib.hid hr; have HO5 := Lib.hid (HO4.out.trans ho); have hrb := HO5.out.at HY2.out (by simp); have r0 := cell_of hrb 0 rfl; have r1 := cell_of hrb 1 rfl; have r2 := cell_of hrb 2 rfl; have f0 := free_of hrb 0; have f1 := free_of hrb 1; have f2 := free_of hrb 2; have HRB := Lib.hid hrb; clear hr hrb))
    all_goals
      go_wp2_with fail
      refine bodyPost_ret (v := .agg #[.bool p3, .slice A3 l3 c3, .slice B3 j3 e3]) (by simp [results, Tryz.results31, go_sem, r0, r1, r2]) rfl ⟨_, rfl, HR3.out.past HRB.out (three_only _ _ _ _ _), only_three (((HO0.out.trans HO1.out).trans HO3.out).trans HO5.out) (by omega) _ _ _⟩
theorem floorQ_ (v : Value) (z : Int) (k : Nat) (w : World) (h : RatAt w v z k) (hz : nd z.natAbs ≤ 400000) :
    Calls Tryz.prog 31 #[v] w fun e w' => ∃ u, e = .returned u ∧ RatAt w' u (z / 2 ^ k) 0 ∧ Only [] w w' := by
  obtain ⟨p, A1, l1, c1, B1, j1, e1, rfl⟩ := h.open
  obtain ⟨hp, N, m, hn, hd, hm, he⟩ := h.parts
  have := floor_walk p _ A1 B1 l1 c1 j1 e1 N (k - m) w hn hd (Nat.le_trans (nd_part he) hz) rfl
  have hfin : signed p (N / 2 ^ (k - m) + (p && decide (N % 2 ^ (k - m) ≠ 0)).toNat) = z / 2 ^ k := by
    by_cases h0 : z < 0
    · rw [decide_eq_true h0] at hp
      subst hp
      rw [← floor_neg z k N m hm he h0]
      unfold signed
      rw [if_pos rfl]
      by_cases hr : N % 2 ^ (k - m) = 0
      · simp [hr]
      · simp [hr]
    · rw [decide_eq_false h0] at hp
      subst hp
      rw [← floor_pos z k N m hm he h0]
      simp [signed]
  rw [hfin] at this
  exact this
end Go.Proofs.YtpamkblhdgjlcaaGreatDoor
namespace Go.Proofs.YtpamkblhdgjlcaaGreatDoor
open Go.RowKit

theorem whole_at {w1 w' : World} {n d : Value} {z : Int} {N : Nat} {b : Nat} {p : Bool} {A1 A2 : Option Addr} {l1 c1 l2 c2 : Nat} {T : TypeId} {q : Bool} (hq : decide (z < 0) = q) (hn : Num w1 n N) (hd : Num w1 d 1) (hN : z.natAbs = N) (hb : w1.heap[b]? = some (.cells #[.bool p, .slice A1 l1 c1, .slice A2 l2 c2] T (0, 0))) (ho : Only [b] w1 w') : RatAt w' (.agg #[.bool q, n, d]) z 0 :=
  ⟨n, d, N, 0, by rw [hq], hn.past hb ho, hd.past hb ho, Nat.le_refl _, by rw [Nat.pow_zero, Nat.mul_one]; exact hN⟩
set_option maxRecDepth 8000 in
set_option maxHeartbeats 4000000 in
theorem numQ_ (n : Int) (w : World) (h1 : -9223372036854775808 ≤ n) (h2 : n ≤ 9223372036854775807) :
    Calls Tryz.prog 24 #[.int .i64 n] w fun e w' => ∃ v, e = .returned v ∧ RatAt w' v n 0 ∧ Only [] w w' := by
  have b2 : (w.alloc (.cells #[.bool false, .slice none 0 0, .slice none 0 0] 51)).heap[w.heap.size]? = some (.cells #[.bool false, .slice none 0 0, .slice none 0 0] 51 (0, 0)) := block_new _ _
  have HB2 := Lib.hid b2
  clear b2
  obtain ⟨A, hA⟩ : ∃ A : Nat, A = n.natAbs := ⟨_, rfl⟩
  have hAb : A < 18446744073709551616 := by omega
  have HA := Lib.hid hA
  have HAB := Lib.hid hAb
  by_cases hn : n < 0
  · have W1 : IntKind.i64.wrap (n + 1) = n + 1 := IntWalk.i64_in _ (by omega)
    have W2 : IntKind.i64.wrap (-(n + 1)) = -(n + 1) := IntWalk.i64_in _ (by omega)
    have W3 : IntKind.u64.wrap (-(n + 1)) = -(n + 1) := by
      show (-(n + 1)) % 18446744073709551616 = _
      omega
    have W4 : IntKind.u64.wrap (-(n + 1) + 1) = (A : Int) := by
      show (-(n + 1) + 1) % 18446744073709551616 = _
      omega
    have HD := Lib.hid (decide_eq_true hn)
    clear hA hAb
    go_enter Tryz.func24, Tryz.ntmps24
    go_wp2_with first
      | (have hq := HX1; clear hq; go_at_call 38; refine (word_ 1 (by decide) _).mono ?_; rintro e w2 ⟨x2, rfl, h1, ho⟩; have HX2 := Lib.hid h1; have HO2 := Lib.hid ho; obtain ⟨A2, c2, rfl, h2a, h2b, h2c⟩ := h1; have hrb := (HO1.out.trans ho).at HB2.out (by simp); have r0 := cell_of hrb 0 rfl; have r1 := cell_of hrb 1 rfl; have r2 := cell_of hrb 2 rfl; have f0 := free_of hrb 0; have f1 := free_of hrb 1; have f2 := free_of hrb 2; have HRB := Lib.hid hrb; clear hrb h2a h2b h2c ho)
      | (go_at_call 38; refine (word_ A HAB.out _).mono ?_; rintro e w1 ⟨x1, rfl, h1, ho⟩; have HX1 := Lib.hid h1; have HO1 := Lib.hid ho; obtain ⟨A1, c1, rfl, h2a, h2b, h2c⟩ := h1; clear h2a h2b h2c ho)
    refine bodyPost_ret (v := .agg #[.bool true, .slice A1 (nd A) c1, .slice A2 (nd 1) c2]) (by simp [results, Tryz.results24, go_sem, r0, r1, r2]) rfl ⟨_, rfl, ?_, only_three ((((Only.refl [] w).alloc _).trans HO1.out).trans HO2.out) (Nat.le_refl _) _ _ _⟩
    exact whole_at (z := n) HD.out (HX1.out.frame HO2.out) HX2.out HA.out.symm HRB.out (three_only _ _ _ _ _)
  · have W3 : IntKind.u64.wrap n = (A : Int) := by
      show n % 18446744073709551616 = _
      omega
    have HD := Lib.hid (decide_eq_false hn)
    clear hA hAb
    go_enter Tryz.func24, Tryz.ntmps24
    go_wp2_with first
      | (have hq := HX1; clear hq; go_at_call 38; refine (word_ 1 (by decide) _).mono ?_; rintro e w2 ⟨x2, rfl, h1, ho⟩; have HX2 := Lib.hid h1; have HO2 := Lib.hid ho; obtain ⟨A2, c2, rfl, h2a, h2b, h2c⟩ := h1; have hrb := (HO1.out.trans ho).at HB2.out (by simp); have r0 := cell_of hrb 0 rfl; have r1 := cell_of hrb 1 rfl; have r2 := cell_of hrb 2 rfl; have f0 := free_of hrb 0; have f1 := free_of hrb 1; have f2 := free_of hrb 2; have HRB := Lib.hid hrb; clear hrb h2a h2b h2c ho)
      | (go_at_call 38; refine (word_ A HAB.out _).mono ?_; rintro e w1 ⟨x1, rfl, h1, ho⟩; have HX1 := Lib.hid h1; have HO1 := Lib.hid ho; obtain ⟨A1, c1, rfl, h2a, h2b, h2c⟩ := h1; clear h2a h2b h2c ho)
    refine bodyPost_ret (v := .agg #[.bool false, .slice A1 (nd A) c1, .slice A2 (nd 1) c2]) (by simp [results, Tryz.results24, go_sem, r0, r1, r2]) rfl ⟨_, rfl, ?_, only_three ((((Only.refl [] w).alloc _).trans HO1.out).trans HO2.out) (Nat.le_refl _) _ _ _⟩
    exact whole_at (z := n) HD.out (HX1.out.frame HO2.out) HX2.out HA.out.symm HRB.out (three_only _ _ _ _ _)
set_option maxRecDepth 8000 in
set_option maxHeartbeats 4000000 in
theorem scale_ (n : Nat) (w : World) (hn : n ≤ 400000) :
    Calls Tryz.prog 21 #[.int .i64 (n : Int)] w fun e w' => ∃ v, e = .returned v ∧ RatAt w' v (2 ^ n) 0 ∧ Only [] w w' := by
  have b2 : (w.alloc (.cells #[.bool false, .slice none 0 0, .slice none 0 0] 51)).heap[w.heap.size]? = some (.cells #[.bool false, .slice none 0 0, .slice none 0 0] 51 (0, 0)) := block_new _ _
  have HB2 := Lib.hid b2
  have HB := Lib.hid (show nd (1 * 2 ^ n) ≤ 1000000 by rw [Nat.one_mul]; exact Nat.le_trans nd_pow (by omega))
  have HS := Lib.hid (show signed false (1 * 2 ^ n) = 2 ^ n by
    unfold signed
    rw [if_neg (by simp), Nat.one_mul, Int.natCast_pow]
    first | done | rfl)
  clear b2
  go_enter Tryz.func21, Tryz.ntmps21
  go_wp2_with first
    | (have hq := HX2; clear hq; go_at_call 38; refine (word_ 1 (by decide) _).mono ?_; rintro e w3 ⟨x3, rfl, h1, ho⟩; have HX3 := Lib.hid h1; have HO3 := Lib.hid ho; clear ho h1)
    | (go_at_call 38; refine (word_ 1 (by decide) _).mono ?_; rintro e w1 ⟨x1, rfl, h1, ho⟩; have HX1 := Lib.hid h1; have HO1 := Lib.hid ho; clear ho h1)
    | (go_at_call 37; refine (shl_num x1 1 n w1 HX1.out (by decide) (by omega)).mono ?_; rintro e w2 ⟨x2, rfl, h1, ho⟩; have HX2 := Lib.hid (OwnD.num h1); have HO2 := Lib.hid ho; clear ho h1)
    | (go_at_call 35; refine (lay_ false x2 x3 (1 * 2 ^ n) 0 w3 (HX2.out.frame HO3.out) (by rw [Nat.pow_zero]; exact HX3.out) HB.out (by decide)).mono ?_; rintro e w5 ⟨x5, rfl, hr, ho⟩; rw [HS.out] at hr; obtain ⟨p3, A3, l3, c3, B3, j3, e3, rfl⟩ := hr.open; have HR3 := Lib.hid hr; have HO5 := Lib.hid (((HO1.out.trans HO2.out).trans HO3.out).trans ho); have hrb := HO5.out.at HB2.out (by simp); have r0 := cell_of hrb 0 rfl; have r1 := cell_of hrb 1 rfl; have r2 := cell_of hrb 2 rfl; have f0 := free_of hrb 0; have f1 := free_of hrb 1; have f2 := free_of hrb 2; have HRB := Lib.hid hrb; clear hr hrb ho)
  refine bodyPost_ret (v := .agg #[.bool p3, .slice A3 l3 c3, .slice B3 j3 e3]) (by simp [results, Tryz.results21, go_sem, r0, r1, r2]) rfl ⟨_, rfl, HR3.out.past HRB.out (three_only _ _ _ _ _), only_three (((Only.refl [] w).alloc _).trans HO5.out) (Nat.le_refl _) _ _ _⟩
end Go.Proofs.YtpamkblhdgjlcaaGreatDoor
