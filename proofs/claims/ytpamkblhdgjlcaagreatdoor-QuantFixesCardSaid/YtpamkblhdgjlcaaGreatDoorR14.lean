/- Rational numbers in boxes; the walks of the reference's MulQ, QuoQ. -/
import Derived.Test.YtpamkblhdgjlcaaGreatDoorProg
import Derived.Test.YtpamkblhdgjlcaaGreatDoorBase
import Derived.Test.YtpamkblhdgjlcaaGreatDoorR13
import Derived.WalkKit
import Derived.WalkSpells
import Derived.WalkLawsBesides
import Derived.Handy
import Derived.Deep.QuietTactic
import Derived.Deep.OwnRows
import Derived.BigQuiet
import Derived.Deep.RegionHeld3
set_option linter.unusedSimpArgs false
set_option linter.unusedVariables false
namespace Go.Proofs.YtpamkblhdgjlcaaGreatDoor
open Go.RowKit

theorem Num.open {w : World} {v : Value} {x : Nat} (h : Num w v x) : ∃ A l c, v = .slice A l c := by
  obtain ⟨A, c, hv, _⟩ := h
  exact ⟨A, _, c, hv⟩
theorem RatAt.open {w : World} {v : Value} {z : Int} {k : Nat} (h : RatAt w v z k) : ∃ p A1 l1 c1 A2 l2 c2, v = .agg #[.bool p, .slice A1 l1 c1, .slice A2 l2 c2] := by
  obtain ⟨n, d, N, m, hv, hn, hd, hm, hz⟩ := h
  obtain ⟨A1, l1, c1, rfl⟩ := hn.open
  obtain ⟨A2, l2, c2, rfl⟩ := hd.open
  exact ⟨_, _, _, _, _, _, _, hv⟩
theorem RatAt.parts {w : World} {p : Bool} {n d : Value} {z : Int} {k : Nat} (h : RatAt w (.agg #[.bool p, n, d]) z k) : p = decide (z < 0) ∧ ∃ N m, Num w n N ∧ Num w d (2 ^ (k - m)) ∧ m ≤ k ∧ z.natAbs = N * 2 ^ m := by
  obtain ⟨n, d, N, m, hv, hn, hd, hm, hz⟩ := h
  simp only [Value.agg.injEq, Array.mk.injEq, List.cons.injEq, Value.bool.injEq, and_true] at hv
  obtain ⟨rfl, rfl, rfl⟩ := hv
  exact ⟨rfl, N, m, hn, hd, hm, hz⟩
theorem RatAt.past {w : World} {v : Value} {z : Int} {k b : Nat} {p : Bool} {A1 A2 : Option Addr} {l1 c1 l2 c2 : Nat} {T : TypeId} (h : RatAt w v z k) (hb : w.heap[b]? = some (.cells #[.bool p, .slice A1 l1 c1, .slice A2 l2 c2] T (0, 0))) {w' : World} (ho : Only [b] w w') : RatAt w' v z k := by
  obtain ⟨n, d, N, m, hv, hn, hd, hm, hz⟩ := h
  exact ⟨n, d, N, m, hv, hn.past hb ho, hd.past hb ho, hm, hz⟩
/-- what was done since leaves all that was there -/
structure Since (w w' : World) : Prop where
  out : Only [] w w'
/-- three cells of one block -/
def Three (w : World) (b : Nat) (v0 v1 v2 : Value) : Prop := w.cell? ⟨b, 0, none⟩ = some v0 ∧ w.cell? ⟨b, 1, none⟩ = some v1 ∧ w.cell? ⟨b, 2, none⟩ = some v2
theorem cell_keep {w w' : World} {b o : Nat} {v : Value} (h : w.cell? ⟨b, o, none⟩ = some v) (ho : Only [] w w') : w'.cell? ⟨b, o, none⟩ = some v := by
  rw [World.cell?_of_block (w := w) (ho.block b (World.block_lt_of_cell? w _ h) (by simp))]
  exact h
theorem six_keep {w w' : World} {b c : Nat} {v0 v1 v2 u0 u1 u2 : Value} (h : w.cell? ⟨b, 0, none⟩ = some v0 ∧ w.cell? ⟨b, 1, none⟩ = some v1 ∧ w.cell? ⟨b, 2, none⟩ = some v2 ∧ w.cell? ⟨c, 0, none⟩ = some u0 ∧ w.cell? ⟨c, 1, none⟩ = some u1 ∧ w.cell? ⟨c, 2, none⟩ = some u2) (ho : Only [] w w') :
    w'.cell? ⟨b, 0, none⟩ = some v0 ∧ w'.cell? ⟨b, 1, none⟩ = some v1 ∧ w'.cell? ⟨b, 2, none⟩ = some v2 ∧ w'.cell? ⟨c, 0, none⟩ = some u0 ∧ w'.cell? ⟨c, 1, none⟩ = some u1 ∧ w'.cell? ⟨c, 2, none⟩ = some u2 :=
  ⟨cell_keep h.1 ho, cell_keep h.2.1 ho, cell_keep h.2.2.1 ho, cell_keep h.2.2.2.1 ho, cell_keep h.2.2.2.2.1 ho, cell_keep h.2.2.2.2.2 ho⟩
theorem cell_off {w w' : World} {b o g : Nat} {v : Value} (h : w.cell? ⟨b, o, none⟩ = some v) (ho : Only [g] w w') (hb : b ≠ g) : w'.cell? ⟨b, o, none⟩ = some v := by
  rw [World.cell?_of_block (w := w) (ho.block b (World.block_lt_of_cell? w _ h) (by simpa using hb))]
  exact h
theorem six_off {w w' : World} {b c g : Nat} {v0 v1 v2 u0 u1 u2 : Value} (h : w.cell? ⟨b, 0, none⟩ = some v0 ∧ w.cell? ⟨b, 1, none⟩ = some v1 ∧ w.cell? ⟨b, 2, none⟩ = some v2 ∧ w.cell? ⟨c, 0, none⟩ = some u0 ∧ w.cell? ⟨c, 1, none⟩ = some u1 ∧ w.cell? ⟨c, 2, none⟩ = some u2) (ho : Only [g] w w') (hb : b ≠ g) (hc : c ≠ g) :
    w'.cell? ⟨b, 0, none⟩ = some v0 ∧ w'.cell? ⟨b, 1, none⟩ = some v1 ∧ w'.cell? ⟨b, 2, none⟩ = some v2 ∧ w'.cell? ⟨c, 0, none⟩ = some u0 ∧ w'.cell? ⟨c, 1, none⟩ = some u1 ∧ w'.cell? ⟨c, 2, none⟩ = some u2 :=
  ⟨cell_off h.1 ho hb, cell_off h.2.1 ho hb, cell_off h.2.2.1 ho hb, cell_off h.2.2.2.1 ho hc, cell_off h.2.2.2.2.1 ho hc, cell_off h.2.2.2.2.2 ho hc⟩
theorem since_more {w w' w'' : World} (h : Since w w') (ho : Only [] w' w'') : Since w w'' := ⟨h.out.trans ho⟩
theorem signed_of (z : Int) : signed (decide (z < 0)) z.natAbs = z := by
  unfold signed
  by_cases h : z < 0
  · rw [if_pos (decide_eq_true h)]; omega
  · rw [if_neg (by simpa using h)]; omega
theorem signed_mul (p q : Bool) (a b : Nat) : signed (p != q) (a * b) = signed p a * signed q b := by
  unfold signed
  cases p <;> cases q <;> simp [Int.natCast_mul, Int.neg_mul, Int.mul_neg]
theorem signed_pow (p : Bool) (a m : Nat) : signed p a * 2 ^ m = signed p (a * 2 ^ m) := by
  unfold signed
  cases p <;> simp [Int.natCast_mul, Int.neg_mul]
theorem mul_signs (z1 z2 : Int) (N1 N2 m1 m2 : Nat) (h1 : z1.natAbs = N1 * 2 ^ m1) (h2 : z2.natAbs = N2 * 2 ^ m2) : signed (decide (z1 < 0) != decide (z2 < 0)) (N1 * N2) * 2 ^ (m1 + m2) = z1 * z2 := by
  rw [signed_pow, Nat.pow_add, Nat.mul_mul_mul_comm, ← h1, ← h2, signed_mul, signed_of, signed_of]
theorem nd_part {z N m : Nat} (h : z = N * 2 ^ m) : nd N ≤ nd z := by
  rw [h]
  exact nd_mono (Nat.le_mul_of_pos_right _ (Nat.pow_pos (by decide)))
theorem block_newr {w : World} {n : Nat} (h : w.heap.size = n) (o : Obj) : (w.alloc o).heap[n]? = some o := by subst h; exact block_new w o
theorem RatAt.whole {w : World} {p : Bool} {n d : Value} {z : Int} (h : RatAt w (.agg #[.bool p, n, d]) z 0) : p = decide (z < 0) ∧ Num w n z.natAbs ∧ Num w d 1 := by
  obtain ⟨hp, N, m, hn, hd, hm, he⟩ := h.parts
  obtain rfl : m = 0 := by omega
  rw [Nat.pow_zero, Nat.mul_one] at he
  rw [he]
  exact ⟨hp, hn, hd⟩
theorem quo_signs (z1 : Int) (N1 m1 : Nat) (h1 : z1.natAbs = N1 * 2 ^ m1) : signed (decide (z1 < 0)) (N1 * 1) * 2 ^ m1 = z1 := by
  rw [signed_pow, Nat.mul_one, ← h1, signed_of]
set_option maxRecDepth 8000 in
set_option maxHeartbeats 8000000 in
theorem mulQ_ (x y : Value) (z1 z2 : Int) (k1 k2 : Nat) (w : World) (hx : RatAt w x z1 k1) (hy : RatAt w y z2 k2) (hz1 : nd z1.natAbs ≤ 400000) (hz2 : nd z2.natAbs ≤ 400000) (hk1 : k1 ≤ 400000) (hk2 : k2 ≤ 400000) :
    Calls Tryz.prog 19 #[x, y] w fun e w' => ∃ v, e = .returned v ∧ RatAt w' v (z1 * z2) (k1 + k2) ∧ Only [] w w' := by
  obtain ⟨p1, A1, l1, c1, B1, j1, e1, rfl⟩ := hx.open
  obtain ⟨p2, A2, l2, c2, B2, j2, e2, rfl⟩ := hy.open
  obtain ⟨rfl, N1, m1, hn1, hd1, hm1, he1⟩ := hx.parts
  obtain ⟨rfl, N2, m2, hn2, hd2, hm2, he2⟩ := hy.parts
  have HN1 := Lib.hid hn1
  have HN2 := Lib.hid hn2
  have HD1 := Lib.hid hd1
  have HD2 := Lib.hid hd2
  have HB := Lib.hid (show nd N1 ≤ 400000 ∧ nd N2 ≤ 400000 ∧ nd (2 ^ (k1 - m1)) ≤ 400001 ∧ nd (2 ^ (k2 - m2)) ≤ 400001 from ⟨Nat.le_trans (nd_part he1) hz1, Nat.le_trans (nd_part he2) hz2, Nat.le_trans nd_pow (by omega), Nat.le_trans nd_pow (by omega)⟩)
  have HS := Lib.hid (mul_signs z1 z2 N1 N2 m1 m2 he1 he2)
  have HM := Lib.hid (show k1 - m1 + (k2 - m2) + (m1 + m2) = k1 + k2 ∧ k1 - m1 + (k2 - m2) ≤ 1000000 by omega)
  clear hx hy hn1 hn2 hd1 hd2 he1 he2 hm1 hm2 hz1 hz2 hk1 hk2
  generalize decide (z1 < 0) = p1 at *
  generalize decide (z2 < 0) = p2 at *
  go_enter Tryz.func19, Tryz.ntmps19
  go_wp2_with fail
  have b0 : (((w.alloc (.cells #[.bool p1, .slice A1 l1 c1, .slice B1 j1 e1] 51)).alloc (.cells #[.bool p2, .slice A2 l2 c2, .slice B2 j2 e2] 51)).alloc (.cells #[.bool false, .slice none 0 0, .slice none 0 0] 51)).heap[w.heap.size]? = some (.cells #[.bool p1, .slice A1 l1 c1, .slice B1 j1 e1] 51 (0, 0)) := block_alloc (block_alloc (block_new _ _))
  have b1 : (((w.alloc (.cells #[.bool p1, .slice A1 l1 c1, .slice B1 j1 e1] 51)).alloc (.cells #[.bool p2, .slice A2 l2 c2, .slice B2 j2 e2] 51)).alloc (.cells #[.bool false, .slice none 0 0, .slice none 0 0] 51)).heap[w.heap.size + 1]? = some (.cells #[.bool p2, .slice A2 l2 c2, .slice B2 j2 e2] 51 (0, 0)) := block_alloc (block_newr (by simp) _)
  have b2 : (((w.alloc (.cells #[.bool p1, .slice A1 l1 c1, .slice B1 j1 e1] 51)).alloc (.cells #[.bool p2, .slice A2 l2 c2, .slice B2 j2 e2] 51)).alloc (.cells #[.bool false, .slice none 0 0, .slice none 0 0] 51)).heap[w.heap.size + 1 + 1]? = some (.cells #[.bool false, .slice none 0 0, .slice none 0 0] 51 (0, 0)) := block_newr (by simp) _
  have HO0 := Lib.hid (show Only [] w (((w.alloc (.cells #[.bool p1, .slice A1 l1 c1, .slice B1 j1 e1] 51)).alloc (.cells #[.bool p2, .slice A2 l2 c2, .slice B2 j2 e2] 51)).alloc (.cells #[.bool false, .slice none 0 0, .slice none 0 0] 51)) from (((Only.refl [] w).alloc _).alloc _).alloc _)
  generalize hw0 : ((w.alloc (.cells #[.bool p1, .slice A1 l1 c1, .slice B1 j1 e1] 51)).alloc (.cells #[.bool p2, .slice A2 l2 c2, .slice B2 j2 e2] 51)).alloc (.cells #[.bool false, .slice none 0 0, .slice none 0 0] 51) = w0 at *
  have g0 : w0.cell? ⟨w.heap.size, 0, none⟩ = some (.bool p1) ∧ w0.cell? ⟨w.heap.size, 1, none⟩ = some (.slice A1 l1 c1) ∧ w0.cell? ⟨w.heap.size, 2, none⟩ = some (.slice B1 j1 e1) ∧ w0.cell? ⟨w.heap.size + 1, 0, none⟩ = some (.bool p2) ∧ w0.cell? ⟨w.heap.size + 1, 1, none⟩ = some (.slice A2 l2 c2) ∧ w0.cell? ⟨w.heap.size + 1, 2, none⟩ = some (.slice B2 j2 e2) := ⟨cell_of b0 0 rfl, cell_of b0 1 rfl, cell_of b0 2 rfl, cell_of b1 0 rfl, cell_of b1 1 rfl, cell_of b1 2 rfl⟩
  have HB2 := Lib.hid b2
  have HS0 : Since w0 w0 := ⟨Only.refl [] w0⟩
  clear hw0 b0 b1 b2
  go_region_held3 (fun w' => w'.cell? ⟨w.heap.size, 0, none⟩ = some (.bool p1) ∧ w'.cell? ⟨w.heap.size, 1, none⟩ = some (.slice A1 l1 c1) ∧ w'.cell? ⟨w.heap.size, 2, none⟩ = some (.slice B1 j1 e1) ∧ w'.cell? ⟨w.heap.size + 1, 0, none⟩ = some (.bool p2) ∧ w'.cell? ⟨w.heap.size + 1, 1, none⟩ = some (.slice A2 l2 c2) ∧ w'.cell? ⟨w.heap.size + 1, 2, none⟩ = some (.slice B2 j2 e2)) (first | exact g0 | exact six_keep (by assumption) (by assumption : Only _ _ _) | exact six_off (by assumption) (three_only _ _ _ _ _) (by omega) (by omega)) (first
    | (have hq := HM2; clear hq; go_at_call 35; refine (lay_ (p1 != p2) x1 x2 (N1 * N2) (k1 - m1 + (k2 - m2)) w2 (HM1.out.frame HO2.out) (by rw [Nat.pow_add]; exact HM2.out) (by have := nd_mul N1 N2; have := HB.out; omega) HM.out.2).mono ?_; rintro e w3 ⟨x3, rfl, hr, ho⟩; obtain ⟨p3, A3, l3, c3, B3, j3, e3, rfl⟩ := hr.open; have HR3 := Lib.hid hr; have HO3 := Lib.hid (HO2.out.trans ho); have hrb := (HO1.out.trans HO3.out).at HB2.out (by simp); have r0 := cell_of hrb 0 rfl; have r1 := cell_of hrb 1 rfl; have r2 := cell_of hrb 2 rfl; have f0 := free_of hrb 0; have f1 := free_of hrb 1; have f2 := free_of hrb 2; have HRB := Lib.hid hrb; clear hr hrb)
    | (have hq := HM1; clear hq; go_at_call 36; refine (mul_num (.slice B1 j1 e1) (.slice B2 j2 e2) (2 ^ (k1 - m1)) (2 ^ (k2 - m2)) w1 ((HD1.out.frame HO0.out).frame HO1.out) ((HD2.out.frame HO0.out).frame HO1.out) (by have := HB.out; omega) (by have := HB.out; omega)).mono ?_; rintro e w2 ⟨x2, rfl, h1, ho⟩; have HM2 := Lib.hid h1; have HO2 := Lib.hid ho; clear h1)
    | (go_at_call 36; refine (mul_num (.slice A1 l1 c1) (.slice A2 l2 c2) N1 N2 w0.drew ((HN1.out.frame HO0.out).frame (Only.refl [] w0).drew) ((HN2.out.frame HO0.out).frame (Only.refl [] w0).drew) (by have := HB.out; omega) (by have := HB.out; omega)).mono ?_; rintro e w1 ⟨x1, rfl, h1, ho⟩; have HM1 := Lib.hid h1; have HO1 := Lib.hid ((Only.refl [] w0).drew.trans ho); clear h1))
  all_goals
    go_wp2_with fail
    have hfin := HR3.out.more (m1 + m2)
    rw [HS.out, HM.out.1] at hfin
    refine bodyPost_ret (v := .agg #[.bool p3, .slice A3 l3 c3, .slice B3 j3 e3]) (by simp [results, Tryz.results19, go_sem, r0, r1, r2]) rfl ⟨_, rfl, hfin.past HRB.out (three_only _ _ _ _ _), only_three ((HO0.out.trans HO1.out).trans HO3.out) (by omega) _ _ _⟩
set_option maxRecDepth 8000 in
set_option maxHeartbeats 8000000 in
/-- the quotient by a power of two -/
theorem quoQ_ (x y : Value) (z1 : Int) (k1 j : Nat) (w : World) (hx : RatAt w x z1 k1) (hy : RatAt w y (2 ^ j) 0) (hz1 : nd z1.natAbs ≤ 400000) (hk1 : k1 ≤ 400000) (hj : j ≤ 400000) :
    Calls Tryz.prog 23 #[x, y] w fun e w' => ∃ v, e = .returned v ∧ RatAt w' v z1 (k1 + j) ∧ Only [] w w' := by
  obtain ⟨p1, A1, l1, c1, B1, j1, e1, rfl⟩ := hx.open
  obtain ⟨p2, A2, l2, c2, B2, j2, e2, rfl⟩ := hy.open
  obtain ⟨rfl, N1, m1, hn1, hd1, hm1, he1⟩ := hx.parts
  obtain ⟨hp2, hn2, hd2⟩ := hy.whole
  have hp : p2 = false := by
    rw [hp2]
    have : (0 : Int) < 2 ^ j := Int.pow_pos (by decide)
    exact decide_eq_false (by omega)
  subst hp
  have ej : ((2 : Int) ^ j).natAbs = 2 ^ j := by rw [Int.natAbs_pow]; rfl
  rw [ej] at hn2
  have HN1 := Lib.hid hn1
  have HN2 := Lib.hid hn2
  have HD1 := Lib.hid hd1
  have HD2 := Lib.hid hd2
  have HB := Lib.hid (show nd N1 ≤ 400000 ∧ nd (2 ^ j) ≤ 400001 ∧ nd (2 ^ (k1 - m1)) ≤ 400001 from ⟨Nat.le_trans (nd_part he1) hz1, Nat.le_trans nd_pow (by omega), Nat.le_trans nd_pow (by omega)⟩)
  have HS := Lib.hid (quo_signs z1 N1 m1 he1)
  have HM := Lib.hid (show k1 - m1 + j + m1 = k1 + j ∧ k1 - m1 + j ≤ 1000000 by omega)
  clear hx hy hn1 hn2 hd1 hd2 he1 hm1 hz1 hk1 hp2 ej
  generalize decide (z1 < 0) = p1 at *
  go_enter Tryz.func23, Tryz.ntmps23
  go_wp2_with fail
  have b0 : (((w.alloc (.cells #[.bool p1, .slice A1 l1 c1, .slice B1 j1 e1] 51)).alloc (.cells #[.bool false, .slice A2 l2 c2, .slice B2 j2 e2] 51)).alloc (.cells #[.bool false, .slice none 0 0, .slice none 0 0] 51)).heap[w.heap.size]? = some (.cells #[.bool p1, .slice A1 l1 c1, .slice B1 j1 e1] 51 (0, 0)) := block_alloc (block_alloc (block_new _ _))
  have b1 : (((w.alloc (.cells #[.bool p1, .slice A1 l1 c1, .slice B1 j1 e1] 51)).alloc (.cells #[.bool false, .slice A2 l2 c2, .slice B2 j2 e2] 51)).alloc (.cells #[.bool false, .slice none 0 0, .slice none 0 0] 51)).heap[w.heap.size + 1]? = some (.cells #[.bool false, .slice A2 l2 c2, .slice B2 j2 e2] 51 (0, 0)) := block_alloc (block_newr (by simp) _)
  have b2 : (((w.alloc (.cells #[.bool p1, .slice A1 l1 c1, .slice B1 j1 e1] 51)).alloc (.cells #[.bool false, .slice A2 l2 c2, .slice B2 j2 e2] 51)).alloc (.cells #[.bool false, .slice none 0 0, .slice none 0 0] 51)).heap[w.heap.size + 1 + 1]? = some (.cells #[.bool false, .slice none 0 0, .slice none 0 0] 51 (0, 0)) := block_newr (by simp) _
  have HO0 := Lib.hid (show Only [] w (((w.alloc (.cells #[.bool p1, .slice A1 l1 c1, .slice B1 j1 e1] 51)).alloc (.cells #[.bool false, .slice A2 l2 c2, .slice B2 j2 e2] 51)).alloc (.cells #[.bool false, .slice none 0 0, .slice none 0 0] 51)) from (((Only.refl [] w).alloc _).alloc _).alloc _)
  generalize hw0 : ((w.alloc (.cells #[.bool p1, .slice A1 l1 c1, .slice B1 j1 e1] 51)).alloc (.cells #[.bool false, .slice A2 l2 c2, .slice B2 j2 e2] 51)).alloc (.cells #[.bool false, .slice none 0 0, .slice none 0 0] 51) = w0 at *
  have g0 : w0.cell? ⟨w.heap.size, 0, none⟩ = some (.bool p1) ∧ w0.cell? ⟨w.heap.size, 1, none⟩ = some (.slice A1 l1 c1) ∧ w0.cell? ⟨w.heap.size, 2, none⟩ = some (.slice B1 j1 e1) ∧ w0.cell? ⟨w.heap.size + 1, 0, none⟩ = some (.bool false) ∧ w0.cell? ⟨w.heap.size + 1, 1, none⟩ = some (.slice A2 l2 c2) ∧ w0.cell? ⟨w.heap.size + 1, 2, none⟩ = some (.slice B2 j2 e2) := ⟨cell_of b0 0 rfl, cell_of b0 1 rfl, cell_of b0 2 rfl, cell_of b1 0 rfl, cell_of b1 1 rfl, cell_of b1 2 rfl⟩
  have HB2 := Lib.hid b2
  have HS0 : Since w0 w0 := ⟨Only.refl [] w0⟩
  clear hw0 b0 b1 b2
  go_region_held3 (fun w' => w'.cell? ⟨w.heap.size, 0, none⟩ = some (.bool p1) ∧ w'.cell? ⟨w.heap.size, 1, none⟩ = some (.slice A1 l1 c1) ∧ w'.cell? ⟨w.heap.size, 2, none⟩ = some (.slice B1 j1 e1) ∧ w'.cell? ⟨w.heap.size + 1, 0, none⟩ = some (.bool false) ∧ w'.cell? ⟨w.heap.size + 1, 1, none⟩ = some (.slice A2 l2 c2) ∧ w'.cell? ⟨w.heap.size + 1, 2, none⟩ = some (.slice B2 j2 e2)) (first | exact g0 | exact six_keep (by assumption) (by assumption : Only _ _ _) | exact six_off (by assumption) (three_only _ _ _ _ _) (by omega) (by omega)) (first
    | (have hq := HM2; clear hq; go_at_call 35; refine (lay_ p1 x1 x2 (N1 * 1) (k1 - m1 + j) w2 (HM1.out.frame HO2.out) (by rw [Nat.pow_add]; exact HM2.out) (by rw [Nat.mul_one]; have := HB.out; omega) HM.out.2).mono ?_; rintro e w3 ⟨x3, rfl, hr, ho⟩; obtain ⟨p3, A3, l3, c3, B3, j3, e3, rfl⟩ := hr.open; have HR3 := Lib.hid hr; have HO3 := Lib.hid (HO2.out.trans ho); have hrb := (HO1.out.trans HO3.out).at HB2.out (by simp); have r0 := cell_of hrb 0 rfl; have r1 := cell_of hrb 1 rfl; have r2 := cell_of hrb 2 rfl; have f0 := free_of hrb 0; have f1 := free_of hrb 1; have f2 := free_of hrb 2; have HRB := Lib.hid hrb; clear hr hrb)
    | (have hq := HM1; clear hq; go_at_call 36; refine (mul_num (.slice B1 j1 e1) (.slice A2 l2 c2) (2 ^ (k1 - m1)) (2 ^ j) w1 ((HD1.out.frame HO0.out).frame HO1.out) ((HN2.out.frame HO0.out).frame HO1.out) (by have := HB.out; omega) (by have := HB.out; omega)).mono ?_; rintro e w2 ⟨x2, rfl, h1, ho⟩; have HM2 := Lib.hid h1; have HO2 := Lib.hid ho; clear h1)
    | (go_at_call 36; refine (mul_num (.slice A1 l1 c1) (.slice B2 j2 e2) N1 1 w0.drew ((HN1.out.frame HO0.out).frame (Only.refl [] w0).drew) ((HD2.out.frame HO0.out).frame (Only.refl [] w0).drew) (by have := HB.out; omega) (by rw [nd_one]; omega)).mono ?_; rintro e w1 ⟨x1, rfl, h1, ho⟩; have HM1 := Lib.hid h1; have HO1 := Lib.hid ((Only.refl [] w0).drew.trans ho); clear h1))
  all_goals
    go_wp2_with fail
    have hfin := HR3.out.more m1
    rw [HS.out, HM.out.1] at hfin
    refine bodyPost_ret (v := .agg #[.bool p3, .slice A3 l3 c3, .slice B3 j3 e3]) (by simp [results, Tryz.results23, go_sem, r0, r1, r2]) rfl ⟨_, rfl, hfin.past HRB.out (three_only _ _ _ _ _), only_three ((HO0.out.trans HO1.out).trans HO3.out) (by omega) _ _ _⟩
end Go.Proofs.YtpamkblhdgjlcaaGreatDoor
