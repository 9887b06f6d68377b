/- The walk of the reference's AddQ. -/
import Derived.Test.YtpamkblhdgjlcaaGreatDoorProg
import Derived.Test.YtpamkblhdgjlcaaGreatDoorBase
import Derived.Test.YtpamkblhdgjlcaaGreatDoorR14
import Derived.WalkKit
import Derived.WalkSpells
import Derived.WalkLawsBesides
import Derived.Handy
import Derived.Deep.QuietTactic
import Derived.Deep.OwnRows
import Derived.BigQuiet
import Derived.Deep.RegionHeld3
set_option linter.unusedSimpArgs false
set_option linter.unusedVariables false
namespace Go.Proofs.YtpamkblhdgjlcaaGreatDoor
open Go.RowKit

theorem signed_add (p : Bool) (a b : Nat) : signed p (a + b) = signed p a + signed p b := by
  unfold signed
  cases p <;> simp <;> omega
theorem signed_sub (p q : Bool) (a b : Nat) (hp : (p == q) = false) (h : b ≤ a) : signed p (a - b) = signed p a + signed q b := by
  unfold signed
  cases p <;> cases q <;> simp at hp ⊢ <;> omega
theorem signed_bus (p q : Bool) (a b : Nat) (hp : (p == q) = false) (h : a ≤ b) : signed q (b - a) = signed p a + signed q b := by
  unfold signed
  cases p <;> cases q <;> simp at hp ⊢ <;> omega
theorem add_signs (z1 z2 : Int) (N1 N2 m1 m2 k1 k2 : Nat) (h1 : z1.natAbs = N1 * 2 ^ m1) (h2 : z2.natAbs = N2 * 2 ^ m2) (hm1 : m1 ≤ k1) (hm2 : m2 ≤ k2) :
    (signed (decide (z1 < 0)) (N1 * 2 ^ (k2 - m2)) + signed (decide (z2 < 0)) (N2 * 2 ^ (k1 - m1))) * 2 ^ (m1 + m2) = z1 * 2 ^ k2 + z2 * 2 ^ k1 := by
  have e1 : N1 * 2 ^ (k2 - m2) * 2 ^ (m1 + m2) = N1 * 2 ^ m1 * 2 ^ k2 := by
    rw [Nat.mul_assoc, Nat.mul_assoc, ← Nat.pow_add, ← Nat.pow_add]
    congr 2
    omega
  have e2 : N2 * 2 ^ (k1 - m1) * 2 ^ (m1 + m2) = N2 * 2 ^ m2 * 2 ^ k1 := by
    rw [Nat.mul_assoc, Nat.mul_assoc, ← Nat.pow_add, ← Nat.pow_add]
    congr 2
    omega
  rw [Int.add_mul, signed_pow, signed_pow, e1, e2, ← h1, ← h2, ← signed_pow _ _ k2, ← signed_pow _ _ k1, signed_of, signed_of]
theorem nd_add (a b : Nat) : nd (a + b) ≤ nd a + nd b + 1 := by
  rw [nd_le]
  have h1 := lt_P a
  have h2 := lt_P b
  have h3 := P_mono (show nd a ≤ nd a + nd b by omega)
  have h4 := P_mono (show nd b ≤ nd a + nd b by omega)
  rw [P_succ]
  omega
theorem cmp_ge {x y : Nat} (h : y ≤ x) : 0 ≤ cmpNat x y := by
  unfold cmpNat
  rw [if_neg (by omega)]
  split <;> omega
theorem cmp_lt {x y : Nat} (h : x < y) : cmpNat x y = -1 := by
  unfold cmpNat
  rw [if_pos h]
set_option maxRecDepth 8000 in
set_option maxHeartbeats 8000000 in
theorem add_same (p1 p2 : Bool) (A1 B1 A2 B2 : Option Addr) (l1 c1 j1 e1 l2 c2 j2 e2 N1 N2 d1 d2 : Nat) (w : World) (hn1 : Num w (.slice A1 l1 c1) N1) (hd1 : Num w (.slice B1 j1 e1) (2 ^ d1)) (hn2 : Num w (.slice A2 l2 c2) N2) (hd2 : Num w (.slice B2 j2 e2) (2 ^ d2)) (hb : nd N1 ≤ 200000 ∧ nd N2 ≤ 200000 ∧ d1 ≤ 200000 ∧ d2 ≤ 200000) (hp : (p1 == p2) = true) :
    Calls Tryz.prog 32 #[.agg #[.bool p1, .slice A1 l1 c1, .slice B1 j1 e1], .agg #[.bool p2, .slice A2 l2 c2, .slice B2 j2 e2]] w fun e w' => ∃ v, e = .returned v ∧ RatAt w' v (signed p1 (N1 * 2 ^ d2) + signed p2 (N2 * 2 ^ d1)) (d1 + d2) ∧ Only [] w w' := by
  have HN1 := Lib.hid hn1
  have HN2 := Lib.hid hn2
  have HD1 := Lib.hid hd1
  have HD2 := Lib.hid hd2
  have h2d1 : nd (2 ^ d1) ≤ 200001 := Nat.le_trans nd_pow (by omega)
  have h2d2 : nd (2 ^ d2) ≤ 200001 := Nat.le_trans nd_pow (by omega)
  obtain ⟨X, hX⟩ : ∃ X, X = N1 * 2 ^ d2 := ⟨_, rfl⟩
  obtain ⟨Y, hY⟩ : ∃ Y, Y = N2 * 2 ^ d1 := ⟨_, rfl⟩
  have HB := Lib.hid (show nd N1 ≤ 200000 ∧ nd N2 ≤ 200000 ∧ nd (2 ^ d1) ≤ 200001 ∧ nd (2 ^ d2) ≤ 200001 ∧ nd X ≤ 400001 ∧ nd Y ≤ 400001 ∧ d1 + d2 ≤ 400000 by
    have h1 := nd_mul N1 (2 ^ d2)
    have h2 := nd_mul N2 (2 ^ d1)
    rw [← hX] at h1
    rw [← hY] at h2
    omega)
  rw [← hX, ← hY] 
  have HP := Lib.hid (show p2 = p1 by cases p1 <;> cases p2 <;> simp at hp ⊢)
  have HXE := Lib.hid hX
  have HYE := Lib.hid hY
  clear hn1 hn2 hd1 hd2 hb h2d1 h2d2 hX hY
  go_enter Tryz.func32, Tryz.ntmps32
  go_wp2_with fail
  have b0 : (((w.alloc (.cells #[.bool p1, .slice A1 l1 c1, .slice B1 j1 e1] 51)).alloc (.cells #[.bool p2, .slice A2 l2 c2, .slice B2 j2 e2] 51)).alloc (.cells #[.bool false, .slice none 0 0, .slice none 0 0] 51)).heap[w.heap.size]? = some (.cells #[.bool p1, .slice A1 l1 c1, .slice B1 j1 e1] 51 (0, 0)) := block_alloc (block_alloc (block_new _ _))
  have b1 : (((w.alloc (.cells #[.bool p1, .slice A1 l1 c1, .slice B1 j1 e1] 51)).alloc (.cells #[.bool p2, .slice A2 l2 c2, .slice B2 j2 e2] 51)).alloc (.cells #[.bool false, .slice none 0 0, .slice none 0 0] 51)).heap[w.heap.size + 1]? = some (.cells #[.bool p2, .slice A2 l2 c2, .slice B2 j2 e2] 51 (0, 0)) := block_alloc (block_newr (by simp) _)
  have b2 : (((w.alloc (.cells #[.bool p1, .slice A1 l1 c1, .slice B1 j1 e1] 51)).alloc (.cells #[.bool p2, .slice A2 l2 c2, .slice B2 j2 e2] 51)).alloc (.cells #[.bool false, .slice none 0 0, .slice none 0 0] 51)).heap[w.heap.size + 1 + 1]? = some (.cells #[.bool false, .slice none 0 0, .slice none 0 0] 51 (0, 0)) := block_newr (by simp) _
  have HO0 := Lib.hid (show Only [] w (((w.alloc (.cells #[.bool p1, .slice A1 l1 c1, .slice B1 j1 e1] 51)).alloc (.cells #[.bool p2, .slice A2 l2 c2, .slice B2 j2 e2] 51)).alloc (.cells #[.bool false, .slice none 0 0, .slice none 0 0] 51)) from (((Only.refl [] w).alloc _).alloc _).alloc _)
  generalize hw0 : ((w.alloc (.cells #[.bool p1, .slice A1 l1 c1, .slice B1 j1 e1] 51)).alloc (.cells #[.bool p2, .slice A2 l2 c2, .slice B2 j2 e2] 51)).alloc (.cells #[.bool false, .slice none 0 0, .slice none 0 0] 51) = w0 at *
  have g0 : w0.cell? ⟨w.heap.size, 0, none⟩ = some (.bool p1) ∧ w0.cell? ⟨w.heap.size, 1, none⟩ = some (.slice A1 l1 c1) ∧ w0.cell? ⟨w.heap.size, 2, none⟩ = some (.slice B1 j1 e1) ∧ w0.cell? ⟨w.heap.size + 1, 0, none⟩ = some (.bool p2) ∧ w0.cell? ⟨w.heap.size + 1, 1, none⟩ = some (.slice A2 l2 c2) ∧ w0.cell? ⟨w.heap.size + 1, 2, none⟩ = some (.slice B2 j2 e2) := ⟨cell_of b0 0 rfl, cell_of b0 1 rfl, cell_of b0 2 rfl, cell_of b1 0 rfl, cell_of b1 1 rfl, cell_of b1 2 rfl⟩
  have HB2 := Lib.hid b2
  have G0 := Lib.hid g0
  clear hw0 b0 b1 b2
  go_region_held3 (fun w' => w'.cell? ⟨w.heap.size, 0, none⟩ = some (.bool p1) ∧ w'.cell? ⟨w.heap.size, 1, none⟩ = some (.slice A1 l1 c1) ∧ w'.cell? ⟨w.heap.size, 2, none⟩ = some (.slice B1 j1 e1) ∧ w'.cell? ⟨w.heap.size + 1, 0, none⟩ = some (.bool p2) ∧ w'.cell? ⟨w.heap.size + 1, 1, none⟩ = some (.slice A2 l2 c2) ∧ w'.cell? ⟨w.heap.size + 1, 2, none⟩ = some (.slice B2 j2 e2)) (first | exact g0 | exact six_keep (by assumption) (by assumption : Only _ _ _) | exact six_off (by assumption) (three_only _ _ _ _ _) (by omega) (by omega)) (first
    | (have hq := HM1; clear hq; go_at_call 36; refine (mul_num (.slice A2 l2 c2) (.slice B1 j1 e1) N2 (2 ^ d1) w1 ((HN2.out.frame HO0.out).frame HO1.out) ((HD1.out.frame HO0.out).frame HO1.out) (by have := HB.out; omega) (by have := HB.out; omega)).mono ?_; rintro e w2 ⟨x2, rfl, h1, ho⟩; rw [← HYE.out] at h1; have HM2 := Lib.hid h1; have HO2 := Lib.hid ho; clear h1)
    | (go_at_call 36; refine (mul_num (.slice A1 l1 c1) (.slice B2 j2 e2) N1 (2 ^ d2) w0.drew ((HN1.out.frame HO0.out).frame (Only.refl [] w0).drew) ((HD2.out.frame HO0.out).frame (Only.refl [] w0).drew) (by have := HB.out; omega) (by have := HB.out; omega)).mono ?_; rintro e w1 ⟨x1, rfl, h1, ho⟩; rw [← HXE.out] at h1; have HM1 := Lib.hid h1; have HO1 := Lib.hid ((Only.refl [] w0).drew.trans ho); clear h1))
  obtain ⟨q0, q1, q2, q3, q4, q5⟩ := six_keep G0.out (HO1.out.trans HO2.out)
  clear g0
  go_wp2_with first
    | (go_at_call 36; refine (mul_num (.slice B1 j1 e1) (.slice B2 j2 e2) (2 ^ d1) (2 ^ d2) w2 (((HD1.out.frame HO0.out).frame HO1.out).frame HO2.out) (((HD2.out.frame HO0.out).frame HO1.out).frame HO2.out) (by have := HB.out; omega) (by have := HB.out; omega)).mono ?_; rintro e w3 ⟨x3, rfl, h1, ho⟩; rw [← Nat.pow_add] at h1; have HM3 := Lib.hid h1; have HO3 := Lib.hid (((HO1.out.trans HO2.out).trans ho)); have HM1' := Lib.hid ((HM1.out.frame HO2.out).frame ho); have HM2' := Lib.hid (HM2.out.frame ho); obtain ⟨q0, q1, q2, q3, q4, q5⟩ := six_keep G0.out HO3.out; clear h1 ho)
    
  go_region_held3 (fun w' => w'.cell? ⟨w.heap.size, 0, none⟩ = some (.bool p1) ∧ w'.cell? ⟨w.heap.size, 1, none⟩ = some (.slice A1 l1 c1) ∧ w'.cell? ⟨w.heap.size, 2, none⟩ = some (.slice B1 j1 e1) ∧ w'.cell? ⟨w.heap.size + 1, 0, none⟩ = some (.bool p2) ∧ w'.cell? ⟨w.heap.size + 1, 1, none⟩ = some (.slice A2 l2 c2) ∧ w'.cell? ⟨w.heap.size + 1, 2, none⟩ = some (.slice B2 j2 e2)) (first | exact ⟨q0, q1, q2, q3, q4, q5⟩ | exact six_keep (by assumption) (by assumption : Only _ _ _) | exact six_off (by assumption) (three_only _ _ _ _ _) (by omega) (by omega)) (first
    | (have hq := HM4; clear hq; go_at_call 35; refine (lay_ p1 x4 x3 (X + Y) (d1 + d2) w4 HM4.out ((HM3.out.frame (Only.refl [] w3).drew).frame HO4.out) (Nat.le_trans (nd_add X Y) (by have := HB.out; omega)) (by have := HB.out; omega)).mono ?_; rintro e w5 ⟨x5, rfl, hr, ho⟩; obtain ⟨p3, A3, l3, c3, B3, j3, e3, rfl⟩ := hr.open; have HR3 := Lib.hid hr; have HO5 := Lib.hid ((HO3.out.trans (Only.trans (Only.refl [] w3).drew HO4.out)).trans ho); have hrb := HO5.out.at HB2.out (by simp); have r0 := cell_of hrb 0 rfl; have r1 := cell_of hrb 1 rfl; have r2 := cell_of hrb 2 rfl; have f0 := free_of hrb 0; have f1 := free_of hrb 1; have f2 := free_of hrb 2; have HRB := Lib.hid hrb; clear hr hrb)
    | (go_at_call 56; refine (add_num x1 x2 X Y w3.drew (HM1'.out.frame (Only.refl [] w3).drew) (HM2'.out.frame (Only.refl [] w3).drew) (by have := HB.out; omega) (by have := HB.out; omega)).mono ?_; rintro e w4 ⟨x4, rfl, h1, ho⟩; have HM4 := Lib.hid h1; have HO4 := Lib.hid ho; clear h1))
  all_goals
    go_wp2_with fail
    have hfin := HR3.out
    rw [signed_add] at hfin; have hpp := HP.out; subst hpp
    refine bodyPost_ret (v := .agg #[.bool p3, .slice A3 l3 c3, .slice B3 j3 e3]) (by simp [results, Tryz.results32, go_sem, r0, r1, r2]) rfl ⟨_, rfl, hfin.past HRB.out (three_only _ _ _ _ _), only_three (HO0.out.trans HO5.out) (by omega) _ _ _⟩
set_option maxRecDepth 8000 in
set_option maxHeartbeats 8000000 in
theorem add_more (p1 p2 : Bool) (A1 B1 A2 B2 : Option Addr) (l1 c1 j1 e1 l2 c2 j2 e2 N1 N2 d1 d2 : Nat) (w : World) (hn1 : Num w (.slice A1 l1 c1) N1) (hd1 : Num w (.slice B1 j1 e1) (2 ^ d1)) (hn2 : Num w (.slice A2 l2 c2) N2) (hd2 : Num w (.slice B2 j2 e2) (2 ^ d2)) (hb : nd N1 ≤ 200000 ∧ nd N2 ≤ 200000 ∧ d1 ≤ 200000 ∧ d2 ≤ 200000) (hp : (p1 == p2) = false) (hle : N2 * 2 ^ d1 ≤ N1 * 2 ^ d2) :
    Calls Tryz.prog 32 #[.agg #[.bool p1, .slice A1 l1 c1, .slice B1 j1 e1], .agg #[.bool p2, .slice A2 l2 c2, .slice B2 j2 e2]] w fun e w' => ∃ v, e = .returned v ∧ RatAt w' v (signed p1 (N1 * 2 ^ d2) + signed p2 (N2 * 2 ^ d1)) (d1 + d2) ∧ Only [] w w' := by
  have HN1 := Lib.hid hn1
  have HN2 := Lib.hid hn2
  have HD1 := Lib.hid hd1
  have HD2 := Lib.hid hd2
  have h2d1 : nd (2 ^ d1) ≤ 200001 := Nat.le_trans nd_pow (by omega)
  have h2d2 : nd (2 ^ d2) ≤ 200001 := Nat.le_trans nd_pow (by omega)
  obtain ⟨X, hX⟩ : ∃ X, X = N1 * 2 ^ d2 := ⟨_, rfl⟩
  obtain ⟨Y, hY⟩ : ∃ Y, Y = N2 * 2 ^ d1 := ⟨_, rfl⟩
  have HB := Lib.hid (show nd N1 ≤ 200000 ∧ nd N2 ≤ 200000 ∧ nd (2 ^ d1) ≤ 200001 ∧ nd (2 ^ d2) ≤ 200001 ∧ nd X ≤ 400001 ∧ nd Y ≤ 400001 ∧ d1 + d2 ≤ 400000 by
    have h1 := nd_mul N1 (2 ^ d2)
    have h2 := nd_mul N2 (2 ^ d1)
    rw [← hX] at h1
    rw [← hY] at h2
    omega)
  rw [← hX, ← hY] at hle ⊢
  have HP := Lib.hid hp; have HLE := Lib.hid hle; have hcv := cmp_ge hle; generalize hc : cmpNat X Y = cv at *; have HC := Lib.hid hc; clear hle hc
  have HXE := Lib.hid hX
  have HYE := Lib.hid hY
  clear hn1 hn2 hd1 hd2 hb h2d1 h2d2 hX hY
  go_enter Tryz.func32, Tryz.ntmps32
  go_wp2_with fail
  have b0 : (((w.alloc (.cells #[.bool p1, .slice A1 l1 c1, .slice B1 j1 e1] 51)).alloc (.cells #[.bool p2, .slice A2 l2 c2, .slice B2 j2 e2] 51)).alloc (.cells #[.bool false, .slice none 0 0, .slice none 0 0] 51)).heap[w.heap.size]? = some (.cells #[.bool p1, .slice A1 l1 c1, .slice B1 j1 e1] 51 (0, 0)) := block_alloc (block_alloc (block_new _ _))
  have b1 : (((w.alloc (.cells #[.bool p1, .slice A1 l1 c1, .slice B1 j1 e1] 51)).alloc (.cells #[.bool p2, .slice A2 l2 c2, .slice B2 j2 e2] 51)).alloc (.cells #[.bool false, .slice none 0 0, .slice none 0 0] 51)).heap[w.heap.size + 1]? = some (.cells #[.bool p2, .slice A2 l2 c2, .slice B2 j2 e2] 51 (0, 0)) := block_alloc (block_newr (by simp) _)
  have b2 : (((w.alloc (.cells #[.bool p1, .slice A1 l1 c1, .slice B1 j1 e1] 51)).alloc (.cells #[.bool p2, .slice A2 l2 c2, .slice B2 j2 e2] 51)).alloc (.cells #[.bool false, .slice none 0 0, .slice none 0 0] 51)).heap[w.heap.size + 1 + 1]? = some (.cells #[.bool false, .slice none 0 0, .slice none 0 0] 51 (0, 0)) := block_newr (by simp) _
  have HO0 := Lib.hid (show Only [] w (((w.alloc (.cells #[.bool p1, .slice A1 l1 c1, .slice B1 j1 e1] 51)).alloc (.cells #[.bool p2, .slice A2 l2 c2, .slice B2 j2 e2] 51)).alloc (.cells #[.bool false, .slice none 0 0, .slice none 0 0] 51)) from (((Only.refl [] w).alloc _).alloc _).alloc _)
  generalize hw0 : ((w.alloc (.cells #[.bool p1, .slice A1 l1 c1, .slice B1 j1 e1] 51)).alloc (.cells #[.bool p2, .slice A2 l2 c2, .slice B2 j2 e2] 51)).alloc (.cells #[.bool false, .slice none 0 0, .slice none 0 0] 51) = w0 at *
  have g0 : w0.cell? ⟨w.heap.size, 0, none⟩ = some (.bool p1) ∧ w0.cell? ⟨w.heap.size, 1, none⟩ = some (.slice A1 l1 c1) ∧ w0.cell? ⟨w.heap.size, 2, none⟩ = some (.slice B1 j1 e1) ∧ w0.cell? ⟨w.heap.size + 1, 0, none⟩ = some (.bool p2) ∧ w0.cell? ⟨w.heap.size + 1, 1, none⟩ = some (.slice A2 l2 c2) ∧ w0.cell? ⟨w.heap.size + 1, 2, none⟩ = some (.slice B2 j2 e2) := ⟨cell_of b0 0 rfl, cell_of b0 1 rfl, cell_of b0 2 rfl, cell_of b1 0 rfl, cell_of b1 1 rfl, cell_of b1 2 rfl⟩
  have HB2 := Lib.hid b2
  have G0 := Lib.hid g0
  clear hw0 b0 b1 b2
  go_region_held3 (fun w' => w'.cell? ⟨w.heap.size, 0, none⟩ = some (.bool p1) ∧ w'.cell? ⟨w.heap.size, 1, none⟩ = some (.slice A1 l1 c1) ∧ w'.cell? ⟨w.heap.size, 2, none⟩ = some (.slice B1 j1 e1) ∧ w'.cell? ⟨w.heap.size + 1, 0, none⟩ = some (.bool p2) ∧ w'.cell? ⟨w.heap.size + 1, 1, none⟩ = some (.slice A2 l2 c2) ∧ w'.cell? ⟨w.heap.size + 1, 2, none⟩ = some (.slice B2 j2 e2)) (first | exact g0 | exact six_keep (by assumption) (by assumption : Only _ _ _) | exact six_off (by assumption) (three_only _ _ _ _ _) (by omega) (by omega)) (first
    | (have hq := HM1; clear hq; go_at_call 36; refine (mul_num (.slice A2 l2 c2) (.slice B1 j1 e1) N2 (2 ^ d1) w1 ((HN2.out.frame HO0.out).frame HO1.out) ((HD1.out.frame HO0.out).frame HO1.out) (by have := HB.out; omega) (by have := HB.out; omega)).mono ?_; rintro e w2 ⟨x2, rfl, h1, ho⟩; rw [← HYE.out] at h1; have HM2 := Lib.hid h1; have HO2 := Lib.hid ho; clear h1)
    | (go_at_call 36; refine (mul_num (.slice A1 l1 c1) (.slice B2 j2 e2) N1 (2 ^ d2) w0.drew ((HN1.out.frame HO0.out).frame (Only.refl [] w0).drew) ((HD2.out.frame HO0.out).frame (Only.refl [] w0).drew) (by have := HB.out; omega) (by have := HB.out; omega)).mono ?_; rintro e w1 ⟨x1, rfl, h1, ho⟩; rw [← HXE.out] at h1; have HM1 := Lib.hid h1; have HO1 := Lib.hid ((Only.refl [] w0).drew.trans ho); clear h1))
  obtain ⟨q0, q1, q2, q3, q4, q5⟩ := six_keep G0.out (HO1.out.trans HO2.out)
  clear g0
  go_wp2_with first
    | (go_at_call 36; refine (mul_num (.slice B1 j1 e1) (.slice B2 j2 e2) (2 ^ d1) (2 ^ d2) w2 (((HD1.out.frame HO0.out).frame HO1.out).frame HO2.out) (((HD2.out.frame HO0.out).frame HO1.out).frame HO2.out) (by have := HB.out; omega) (by have := HB.out; omega)).mono ?_; rintro e w3 ⟨x3, rfl, h1, ho⟩; rw [← Nat.pow_add] at h1; have HM3 := Lib.hid h1; have HO3 := Lib.hid (((HO1.out.trans HO2.out).trans ho)); have HM1' := Lib.hid ((HM1.out.frame HO2.out).frame ho); have HM2' := Lib.hid (HM2.out.frame ho); obtain ⟨q0, q1, q2, q3, q4, q5⟩ := six_keep G0.out HO3.out; clear h1 ho)
    | (go_at_call 57; refine (cmp_ x1 x2 X Y _ HM1'.out HM2'.out (by have := HB.out; omega)).mono ?_; rintro e w3b ⟨rfl, ho⟩; rw [HC.out]; have HOB := Lib.hid ho; obtain ⟨q0, q1, q2, q3, q4, q5⟩ := six_keep G0.out (HO3.out.trans HOB.out); clear ho)
  go_region_held3 (fun w' => w'.cell? ⟨w.heap.size, 0, none⟩ = some (.bool p1) ∧ w'.cell? ⟨w.heap.size, 1, none⟩ = some (.slice A1 l1 c1) ∧ w'.cell? ⟨w.heap.size, 2, none⟩ = some (.slice B1 j1 e1) ∧ w'.cell? ⟨w.heap.size + 1, 0, none⟩ = some (.bool p2) ∧ w'.cell? ⟨w.heap.size + 1, 1, none⟩ = some (.slice A2 l2 c2) ∧ w'.cell? ⟨w.heap.size + 1, 2, none⟩ = some (.slice B2 j2 e2)) (first | exact ⟨q0, q1, q2, q3, q4, q5⟩ | exact six_keep (by assumption) (by assumption : Only _ _ _) | exact six_off (by assumption) (three_only _ _ _ _ _) (by omega) (by omega)) (first
    | (have hq := HM4; clear hq; go_at_call 35; refine (lay_ p1 x4 x3 (X - Y) (d1 + d2) w4 HM4.out ((HM3.out.frame (HOB.out.trans (Only.refl [] w3b).drew)).frame HO4.out) (Nat.le_trans (nd_mono (Nat.sub_le X Y)) (by have := HB.out; omega)) (by have := HB.out; omega)).mono ?_; rintro e w5 ⟨x5, rfl, hr, ho⟩; obtain ⟨p3, A3, l3, c3, B3, j3, e3, rfl⟩ := hr.open; have HR3 := Lib.hid hr; have HO5 := Lib.hid ((HO3.out.trans (Only.trans (HOB.out.trans (Only.refl [] w3b).drew) HO4.out)).trans ho); have hrb := HO5.out.at HB2.out (by simp); have r0 := cell_of hrb 0 rfl; have r1 := cell_of hrb 1 rfl; have r2 := cell_of hrb 2 rfl; have f0 := free_of hrb 0; have f1 := free_of hrb 1; have f2 := free_of hrb 2; have HRB := Lib.hid hrb; clear hr hrb)
    | (go_at_call 58; refine (sub_num x1 x2 X Y w3b.drew ((HM1'.out.frame HOB.out).frame (Only.refl [] w3b).drew) ((HM2'.out.frame HOB.out).frame (Only.refl [] w3b).drew) HLE.out (by have := HB.out; omega)).mono ?_; rintro e w4 ⟨x4, rfl, h1, ho, _⟩; have HM4 := Lib.hid h1; have HO4 := Lib.hid ho; clear h1))
  all_goals
    go_wp2_with fail
    have hfin := HR3.out
    rw [signed_sub p1 p2 X Y HP.out HLE.out] at hfin
    refine bodyPost_ret (v := .agg #[.bool p3, .slice A3 l3 c3, .slice B3 j3 e3]) (by simp [results, Tryz.results32, go_sem, r0, r1, r2]) rfl ⟨_, rfl, hfin.past HRB.out (three_only _ _ _ _ _), only_three (HO0.out.trans HO5.out) (by omega) _ _ _⟩
set_option maxRecDepth 8000 in
set_option maxHeartbeats 8000000 in
theorem add_less (p1 p2 : Bool) (A1 B1 A2 B2 : Option Addr) (l1 c1 j1 e1 l2 c2 j2 e2 N1 N2 d1 d2 : Nat) (w : World) (hn1 : Num w (.slice A1 l1 c1) N1) (hd1 : Num w (.slice B1 j1 e1) (2 ^ d1)) (hn2 : Num w (.slice A2 l2 c2) N2) (hd2 : Num w (.slice B2 j2 e2) (2 ^ d2)) (hb : nd N1 ≤ 200000 ∧ nd N2 ≤ 200000 ∧ d1 ≤ 200000 ∧ d2 ≤ 200000) (hp : (p1 == p2) = false) (hle : N1 * 2 ^ d2 < N2 * 2 ^ d1) :
    Calls Tryz.prog 32 #[.agg #[.bool p1, .slice A1 l1 c1, .slice B1 j1 e1], .agg #[.bool p2, .slice A2 l2 c2, .slice B2 j2 e2]] w fun e w' => ∃ v, e = .returned v ∧ RatAt w' v (signed p1 (N1 * 2 ^ d2) + signed p2 (N2 * 2 ^ d1)) (d1 + d2) ∧ Only [] w w' := by
  have HN1 := Lib.hid hn1
  have HN2 := Lib.hid hn2
  have HD1 := Lib.hid hd1
  have HD2 := Lib.hid hd2
  have h2d1 : nd (2 ^ d1) ≤ 200001 := Nat.le_trans nd_pow (by omega)
  have h2d2 : nd (2 ^ d2) ≤ 200001 := Nat.le_trans nd_pow (by omega)
  obtain ⟨X, hX⟩ : ∃ X, X = N1 * 2 ^ d2 := ⟨_, rfl⟩
  obtain ⟨Y, hY⟩ : ∃ Y, Y = N2 * 2 ^ d1 := ⟨_, rfl⟩
  have HB := Lib.hid (show nd N1 ≤ 200000 ∧ nd N2 ≤ 200000 ∧ nd (2 ^ d1) ≤ 200001 ∧ nd (2 ^ d2) ≤ 200001 ∧ nd X ≤ 400001 ∧ nd Y ≤ 400001 ∧ d1 + d2 ≤ 400000 by
    have h1 := nd_mul N1 (2 ^ d2)
    have h2 := nd_mul N2 (2 ^ d1)
    rw [← hX] at h1
    rw [← hY] at h2
    omega)
  rw [← hX, ← hY] at hle ⊢
  have HP := Lib.hid hp; have HLE := Lib.hid (Nat.le_of_lt hle); have HC := Lib.hid (cmp_lt hle); clear hle
  have HXE := Lib.hid hX
  have HYE := Lib.hid hY
  clear hn1 hn2 hd1 hd2 hb h2d1 h2d2 hX hY
  go_enter Tryz.func32, Tryz.ntmps32
  go_wp2_with fail
  have b0 : (((w.alloc (.cells #[.bool p1, .slice A1 l1 c1, .slice B1 j1 e1] 51)).alloc (.cells #[.bool p2, .slice A2 l2 c2, .slice B2 j2 e2] 51)).alloc (.cells #[.bool false, .slice none 0 0, .slice none 0 0] 51)).heap[w.heap.size]? = some (.cells #[.bool p1, .slice A1 l1 c1, .slice B1 j1 e1] 51 (0, 0)) := block_alloc (block_alloc (block_new _ _))
  have b1 : (((w.alloc (.cells #[.bool p1, .slice A1 l1 c1, .slice B1 j1 e1] 51)).alloc (.cells #[.bool p2, .slice A2 l2 c2, .slice B2 j2 e2] 51)).alloc (.cells #[.bool false, .slice none 0 0, .slice none 0 0] 51)).heap[w.heap.size + 1]? = some (.cells #[.bool p2, .slice A2 l2 c2, .slice B2 j2 e2] 51 (0, 0)) := block_alloc (block_newr (by simp) _)
  have b2 : (((w.alloc (.cells #[.bool p1, .slice A1 l1 c1, .slice B1 j1 e1] 51)).alloc (.cells #[.bool p2, .slice A2 l2 c2, .slice B2 j2 e2] 51)).alloc (.cells #[.bool false, .slice none 0 0, .slice none 0 0] 51)).heap[w.heap.size + 1 + 1]? = some (.cells #[.bool false, .slice none 0 0, .slice none 0 0] 51 (0, 0)) := block_newr (by simp) _
  have HO0 := Lib.hid (show Only [] w (((w.alloc (.cells #[.bool p1, .slice A1 l1 c1, .slice B1 j1 e1] 51)).alloc (.cells #[.bool p2, .slice A2 l2 c2, .slice B2 j2 e2] 51)).alloc (.cells #[.bool false, .slice none 0 0, .slice none 0 0] 51)) from (((Only.refl [] w).alloc _).alloc _).alloc _)
  generalize hw0 : ((w.alloc (.cells #[.bool p1, .slice A1 l1 c1, .slice B1 j1 e1] 51)).alloc (.cells #[.bool p2, .slice A2 l2 c2, .slice B2 j2 e2] 51)).alloc (.cells #[.bool false, .slice none 0 0, .slice none 0 0] 51) = w0 at *
  have g0 : w0.cell? ⟨w.heap.size, 0, none⟩ = some (.bool p1) ∧ w0.cell? ⟨w.heap.size, 1, none⟩ = some (.slice A1 l1 c1) ∧ w0.cell? ⟨w.heap.size, 2, none⟩ = some (.slice B1 j1 e1) ∧ w0.cell? ⟨w.heap.size + 1, 0, none⟩ = some (.bool p2) ∧ w0.cell? ⟨w.heap.size + 1, 1, none⟩ = some (.slice A2 l2 c2) ∧ w0.cell? ⟨w.heap.size + 1, 2, none⟩ = some (.slice B2 j2 e2) := ⟨cell_of b0 0 rfl, cell_of b0 1 rfl, cell_of b0 2 rfl, cell_of b1 0 rfl, cell_of b1 1 rfl, cell_of b1 2 rfl⟩
  have HB2 := Lib.hid b2
  have G0 := Lib.hid g0
  clear hw0 b0 b1 b2
  go_region_held3 (fun w' => w'.cell? ⟨w.heap.size, 0, none⟩ = some (.bool p1) ∧ w'.cell? ⟨w.heap.size, 1, none⟩ = some (.slice A1 l1 c1) ∧ w'.cell? ⟨w.heap.size, 2, none⟩ = some (.slice B1 j1 e1) ∧ w'.cell? ⟨w.heap.size + 1, 0, none⟩ = some (.bool p2) ∧ w'.cell? ⟨w.heap.size + 1, 1, none⟩ = some (.slice A2 l2 c2) ∧ w'.cell? ⟨w.heap.size + 1, 2, none⟩ = some (.slice B2 j2 e2)) (first | exact g0 | exact six_keep (by assumption) (by assumption : Only _ _ _) | exact six_off (by assumption) (three_only _ _ _ _ _) (by omega) (by omega)) (first
    | (have hq := HM1; clear hq; go_at_call 36; refine (mul_num (.slice A2 l2 c2) (.slice B1 j1 e1) N2 (2 ^ d1) w1 ((HN2.out.frame HO0.out).frame HO1.out) ((HD1.out.frame HO0.out).frame HO1.out) (by have := HB.out; omega) (by have := HB.out; omega)).mono ?_; rintro e w2 ⟨x2, rfl, h1, ho⟩; rw [← HYE.out] at h1; have HM2 := Lib.hid h1; have HO2 := Lib.hid ho; clear h1)
    | (go_at_call 36; refine (mul_num (.slice A1 l1 c1) (.slice B2 j2 e2) N1 (2 ^ d2) w0.drew ((HN1.out.frame HO0.out).frame (Only.refl [] w0).drew) ((HD2.out.frame HO0.out).frame (Only.refl [] w0).drew) (by have := HB.out; omega) (by have := HB.out; omega)).mono ?_; rintro e w1 ⟨x1, rfl, h1, ho⟩; rw [← HXE.out] at h1; have HM1 := Lib.hid h1; have HO1 := Lib.hid ((Only.refl [] w0).drew.trans ho); clear h1))
  obtain ⟨q0, q1, q2, q3, q4, q5⟩ := six_keep G0.out (HO1.out.trans HO2.out)
  clear g0
  go_wp2_with first
    | (go_at_call 36; refine (mul_num (.slice B1 j1 e1) (.slice B2 j2 e2) (2 ^ d1) (2 ^ d2) w2 (((HD1.out.frame HO0.out).frame HO1.out).frame HO2.out) (((HD2.out.frame HO0.out).frame HO1.out).frame HO2.out) (by have := HB.out; omega) (by have := HB.out; omega)).mono ?_; rintro e w3 ⟨x3, rfl, h1, ho⟩; rw [← Nat.pow_add] at h1; have HM3 := Lib.hid h1; have HO3 := Lib.hid (((HO1.out.trans HO2.out).trans ho)); have HM1' := Lib.hid ((HM1.out.frame HO2.out).frame ho); have HM2' := Lib.hid (HM2.out.frame ho); obtain ⟨q0, q1, q2, q3, q4, q5⟩ := six_keep G0.out HO3.out; clear h1 ho)
    | (go_at_call 57; refine (cmp_ x1 x2 X Y _ HM1'.out HM2'.out (by have := HB.out; omega)).mono ?_; rintro e w3b ⟨rfl, ho⟩; rw [HC.out]; have HOB := Lib.hid ho; obtain ⟨q0, q1, q2, q3, q4, q5⟩ := six_keep G0.out (HO3.out.trans HOB.out); clear ho)
  go_region_held3 (fun w' => w'.cell? ⟨w.heap.size, 0, none⟩ = some (.bool p1) ∧ w'.cell? ⟨w.heap.size, 1, none⟩ = some (.slice A1 l1 c1) ∧ w'.cell? ⟨w.heap.size, 2, none⟩ = some (.slice B1 j1 e1) ∧ w'.cell? ⟨w.heap.size + 1, 0, none⟩ = some (.bool p2) ∧ w'.cell? ⟨w.heap.size + 1, 1, none⟩ = some (.slice A2 l2 c2) ∧ w'.cell? ⟨w.heap.size + 1, 2, none⟩ = some (.slice B2 j2 e2)) (first | exact ⟨q0, q1, q2, q3, q4, q5⟩ | exact six_keep (by assumption) (by assumption : Only _ _ _) | exact six_off (by assumption) (three_only _ _ _ _ _) (by omega) (by omega)) (first
    | (have hq := HM4; clear hq; go_at_call 35; refine (lay_ p2 x4 x3 (Y - X) (d1 + d2) w4 HM4.out ((HM3.out.frame (HOB.out.trans (Only.refl [] w3b).drew)).frame HO4.out) (Nat.le_trans (nd_mono (Nat.sub_le Y X)) (by have := HB.out; omega)) (by have := HB.out; omega)).mono ?_; rintro e w5 ⟨x5, rfl, hr, ho⟩; obtain ⟨p3, A3, l3, c3, B3, j3, e3, rfl⟩ := hr.open; have HR3 := Lib.hid hr; have HO5 := Lib.hid ((HO3.out.trans (Only.trans (HOB.out.trans (Only.refl [] w3b).drew) HO4.out)).trans ho); have hrb := HO5.out.at HB2.out (by simp); have r0 := cell_of hrb 0 rfl; have r1 := cell_of hrb 1 rfl; have r2 := cell_of hrb 2 rfl; have f0 := free_of hrb 0; have f1 := free_of hrb 1; have f2 := free_of hrb 2; have HRB := Lib.hid hrb; clear hr hrb)
    | (go_at_call 58; refine (sub_num x2 x1 Y X w3b.drew ((HM2'.out.frame HOB.out).frame (Only.refl [] w3b).drew) ((HM1'.out.frame HOB.out).frame (Only.refl [] w3b).drew) HLE.out (by have := HB.out; omega)).mono ?_; rintro e w4 ⟨x4, rfl, h1, ho, _⟩; have HM4 := Lib.hid h1; have HO4 := Lib.hid ho; clear h1))
  all_goals
    go_wp2_with fail
    have hfin := HR3.out
    rw [signed_bus p1 p2 X Y HP.out HLE.out] at hfin
    refine bodyPost_ret (v := .agg #[.bool p3, .slice A3 l3 c3, .slice B3 j3 e3]) (by simp [results, Tryz.results32, go_sem, r0, r1, r2]) rfl ⟨_, rfl, hfin.past HRB.out (three_only _ _ _ _ _), only_three (HO0.out.trans HO5.out) (by omega) _ _ _⟩
theorem addQ_ (x y : Value) (z1 z2 : Int) (k1 k2 : Nat) (w : World) (hx : RatAt w x z1 k1) (hy : RatAt w y z2 k2) (hz1 : nd z1.natAbs ≤ 200000) (hz2 : nd z2.natAbs ≤ 200000) (hk1 : k1 ≤ 200000) (hk2 : k2 ≤ 200000) :
    Calls Tryz.prog 32 #[x, y] w fun e w' => ∃ v, e = .returned v ∧ RatAt w' v (z1 * 2 ^ k2 + z2 * 2 ^ k1) (k1 + k2) ∧ Only [] w w' := by
  obtain ⟨p1, A1, l1, c1, B1, j1, e1, rfl⟩ := hx.open
  obtain ⟨p2, A2, l2, c2, B2, j2, e2, rfl⟩ := hy.open
  obtain ⟨hp1, N1, m1, hn1, hd1, hm1, he1⟩ := hx.parts
  obtain ⟨hp2, N2, m2, hn2, hd2, hm2, he2⟩ := hy.parts
  have hs := add_signs z1 z2 N1 N2 m1 m2 k1 k2 he1 he2 hm1 hm2
  rw [← hp1, ← hp2] at hs
  have hk : k1 - m1 + (k2 - m2) + (m1 + m2) = k1 + k2 := by omega
  have hb : nd N1 ≤ 200000 ∧ nd N2 ≤ 200000 ∧ k1 - m1 ≤ 200000 ∧ k2 - m2 ≤ 200000 := ⟨Nat.le_trans (nd_part he1) hz1, Nat.le_trans (nd_part he2) hz2, by omega, by omega⟩
  have key : Calls Tryz.prog 32 #[.agg #[.bool p1, .slice A1 l1 c1, .slice B1 j1 e1], .agg #[.bool p2, .slice A2 l2 c2, .slice B2 j2 e2]] w fun e w' => ∃ v, e = .returned v ∧ RatAt w' v (signed p1 (N1 * 2 ^ (k2 - m2)) + signed p2 (N2 * 2 ^ (k1 - m1))) (k1 - m1 + (k2 - m2)) ∧ Only [] w w' := by
    by_cases hp : (p1 == p2) = true
    · exact add_same _ _ _ _ _ _ _ _ _ _ _ _ _ _ _ _ _ _ w hn1 hd1 hn2 hd2 hb hp
    · have hp' : (p1 == p2) = false := by simpa using hp
      by_cases hle : N2 * 2 ^ (k1 - m1) ≤ N1 * 2 ^ (k2 - m2)
      · exact add_more _ _ _ _ _ _ _ _ _ _ _ _ _ _ _ _ _ _ w hn1 hd1 hn2 hd2 hb hp' hle
      · exact add_less _ _ _ _ _ _ _ _ _ _ _ _ _ _ _ _ _ _ w hn1 hd1 hn2 hd2 hb hp' (by omega)
  refine key.mono ?_
  rintro e w' ⟨v, rfl, hr, ho⟩
  have := hr.more (m1 + m2)
  rw [hs, hk] at this
  exact ⟨v, rfl, this, ho⟩
end Go.Proofs.YtpamkblhdgjlcaaGreatDoor
