/- The walk of the reference's Round. -/
import Derived.Test.YtpamkblhdgjlcaaGreatDoorProg
import Derived.Test.YtpamkblhdgjlcaaGreatDoorBase
import Derived.Test.YtpamkblhdgjlcaaGreatDoorR19
import Derived.Test.YtpamkblhdgjlcaaGreatDoorS1
import Derived.Test.YtpamkblhdgjlcaaGreatDoorQ1
import Derived.WalkKit
import Derived.WalkSpells
import Derived.WalkLawsBesides
import Derived.Handy
import Derived.Deep.QuietTactic
import Derived.Deep.OwnRows
import Derived.BigQuiet
import Derived.BigRegion
import Derived.Deep.RegionHeld3
set_option linter.unusedSimpArgs false
set_option linter.unusedVariables false
namespace Go.Proofs.YtpamkblhdgjlcaaGreatDoor
open Go.RowKit

theorem half_floor (z : Int) (k : Nat) : (z * 2 ^ 1 + 1 * 2 ^ k) / 2 ^ (k + 1) = halfUp z (2 ^ k) := by
  unfold halfUp
  rw [Int.pow_succ (2 : Int) k, show (2 : Int) ^ 1 = 2 from rfl, Int.one_mul, Int.natCast_pow]
  first | done | rfl
theorem ndi_add (a b : Int) : nd (a + b).natAbs ≤ nd a.natAbs + nd b.natAbs + 1 := Nat.le_trans (nd_mono (Int.natAbs_add_le a b)) (nd_add _ _)
theorem ndi_mul (a b : Int) : nd (a * b).natAbs ≤ nd a.natAbs + nd b.natAbs := by rw [Int.natAbs_mul]; exact nd_mul _ _
theorem ndi_neg (a : Int) : nd (-a).natAbs = nd a.natAbs := by rw [Int.natAbs_neg]
theorem ndi_pow (k : Nat) : nd ((2 : Int) ^ k).natAbs ≤ k + 1 := by rw [Int.natAbs_pow]; exact nd_pow
theorem ndi_one : nd (1 : Int).natAbs = 1 := rfl
theorem bound_a (z : Int) (k : Nat) (hz : nd z.natAbs ≤ 4000) (hk : k ≤ 2000) : nd (z * 2 ^ 1 + 1 * 2 ^ k).natAbs ≤ 8000 := by
  have h1 := ndi_add (z * 2 ^ 1) (1 * 2 ^ k)
  have h2 := ndi_mul z (2 ^ 1)
  have h3 := ndi_mul 1 (2 ^ k)
  have h4 := ndi_pow 1
  have h5 := ndi_pow k
  have h6 := ndi_one
  omega
theorem bound_f (z : Int) (k : Nat) (hz : nd z.natAbs ≤ 4000) (hk : k ≤ 2000) : nd (halfUp z (2 ^ k)).natAbs ≤ 8000 := by
  rw [← half_floor]
  exact Nat.le_trans (nd_mono (Int.natAbs_ediv_le_natAbs _ _)) (bound_a z k hz hk)
theorem bound_b (z F : Int) (k : Nat) (hz : nd z.natAbs ≤ 4000) (hF : nd F.natAbs ≤ 8000) (hk : k ≤ 2000) : nd (F * 2 ^ k + -z * 2 ^ 0).natAbs ≤ 20000 := by
  have h1 := ndi_add (F * 2 ^ k) (-z * 2 ^ 0)
  have h2 := ndi_mul F (2 ^ k)
  have h3 := ndi_mul (-z) (2 ^ 0)
  have h4 := ndi_pow 0
  have h5 := ndi_pow k
  have h6 := ndi_neg z
  omega
theorem bound_c (F : Int) (hF : nd F.natAbs ≤ 8000) : nd (F - 1).natAbs ≤ 10000 := by
  have h1 := ndi_add F (-1)
  have h6 : nd (-1 : Int).natAbs = 1 := rfl
  rw [show F - 1 = F + -1 by omega]
  omega
theorem less_one (F : Int) : F * 2 ^ 0 + -1 * 2 ^ 0 = F - 1 := by rw [Int.pow_zero]; omega
theorem sign_low {G : Int} (h : G < -2147483648) : decide (signI (G * 2 ^ 0 + -(-2147483648) * 2 ^ 0) < 0) = true := by
  unfold signI
  rw [Int.pow_zero, Int.mul_one, Int.mul_one, if_neg (by omega), if_pos (by omega)]
  rfl
theorem sign_low_no {G : Int} (h : ¬ G < -2147483648) : decide (signI (G * 2 ^ 0 + -(-2147483648) * 2 ^ 0) < 0) = false := by
  unfold signI
  rw [Int.pow_zero, Int.mul_one, Int.mul_one]
  split
  · rfl
  · rw [if_neg (by omega)]; rfl
theorem sign_high {G : Int} (h : 2147483647 < G) : decide (0 < signI (G * 2 ^ 0 + -2147483647 * 2 ^ 0)) = true := by
  unfold signI
  rw [Int.pow_zero, Int.mul_one, Int.mul_one, if_neg (by omega), if_neg (by omega)]
  rfl
theorem sign_high_no {G : Int} (h : ¬ 2147483647 < G) : decide (0 < signI (G * 2 ^ 0 + -2147483647 * 2 ^ 0)) = false := by
  unfold signI
  rw [Int.pow_zero, Int.mul_one, Int.mul_one]
  split
  · rfl
  · rw [if_pos (by omega)]; rfl
theorem Num.digit {w : World} {A : Option Addr} {l c x : Nat} (h : Num w (.slice A l c) x) (h0 : x ≠ 0) : l = nd x ∧ ∃ b o, A = some ⟨b, o, none⟩ ∧ w.cell? ⟨b, o, none⟩ = some (.int .u64 ((dg x 0 : Nat) : Int)) := by
  obtain ⟨A', c', hv, _, _, hr⟩ := h
  cases hv
  refine ⟨rfl, ?_⟩
  rcases hr with h' | ⟨b, o, hA, hr⟩
  · exact absurd h' (nd_ne h0)
  · exact ⟨b, o, hA, hr 0 (nd_pos h0)⟩
theorem three_at {w w' : World} {b : Nat} {v0 v1 v2 : Value} (h : w.cell? ⟨b, 0, none⟩ = some v0 ∧ w.cell? ⟨b, 1, none⟩ = some v1 ∧ w.cell? ⟨b, 2, none⟩ = some v2) (ho : Only [] w w') : w'.cell? ⟨b, 0, none⟩ = some v0 ∧ w'.cell? ⟨b, 1, none⟩ = some v1 ∧ w'.cell? ⟨b, 2, none⟩ = some v2 := three_keep h ho
theorem nine_keep {w w' : World} {a b c : Nat} {v0 v1 v2 v3 v4 v5 v6 v7 v8 : Value} (h : w.cell? ⟨a, 0, none⟩ = some v0 ∧ w.cell? ⟨a, 1, none⟩ = some v1 ∧ w.cell? ⟨a, 2, none⟩ = some v2 ∧ w.cell? ⟨b, 0, none⟩ = some v3 ∧ w.cell? ⟨b, 1, none⟩ = some v4 ∧ w.cell? ⟨b, 2, none⟩ = some v5 ∧ w.cell? ⟨c, 0, none⟩ = some v6 ∧ w.cell? ⟨c, 1, none⟩ = some v7 ∧ w.cell? ⟨c, 2, none⟩ = some v8) (ho : Only [] w w') :
    w'.cell? ⟨a, 0, none⟩ = some v0 ∧ w'.cell? ⟨a, 1, none⟩ = some v1 ∧ w'.cell? ⟨a, 2, none⟩ = some v2 ∧ w'.cell? ⟨b, 0, none⟩ = some v3 ∧ w'.cell? ⟨b, 1, none⟩ = some v4 ∧ w'.cell? ⟨b, 2, none⟩ = some v5 ∧ w'.cell? ⟨c, 0, none⟩ = some v6 ∧ w'.cell? ⟨c, 1, none⟩ = some v7 ∧ w'.cell? ⟨c, 2, none⟩ = some v8 :=
  ⟨cell_keep h.1 ho, cell_keep h.2.1 ho, cell_keep h.2.2.1 ho, cell_keep h.2.2.2.1 ho, cell_keep h.2.2.2.2.1 ho, cell_keep h.2.2.2.2.2.1 ho, cell_keep h.2.2.2.2.2.2.1 ho, cell_keep h.2.2.2.2.2.2.2.1 ho, cell_keep h.2.2.2.2.2.2.2.2 ho⟩
theorem ten_keep {w w' : World} {a b c d o : Nat} {v0 v1 v2 v3 v4 v5 v6 v7 v8 v9 : Value} (h : w.cell? ⟨d, o, none⟩ = some v9 ∧ w.cell? ⟨a, 0, none⟩ = some v0 ∧ w.cell? ⟨a, 1, none⟩ = some v1 ∧ w.cell? ⟨a, 2, none⟩ = some v2 ∧ w.cell? ⟨b, 0, none⟩ = some v3 ∧ w.cell? ⟨b, 1, none⟩ = some v4 ∧ w.cell? ⟨b, 2, none⟩ = some v5 ∧ w.cell? ⟨c, 0, none⟩ = some v6 ∧ w.cell? ⟨c, 1, none⟩ = some v7 ∧ w.cell? ⟨c, 2, none⟩ = some v8) (ho : Only [] w w') :
    w'.cell? ⟨d, o, none⟩ = some v9 ∧ w'.cell? ⟨a, 0, none⟩ = some v0 ∧ w'.cell? ⟨a, 1, none⟩ = some v1 ∧ w'.cell? ⟨a, 2, none⟩ = some v2 ∧ w'.cell? ⟨b, 0, none⟩ = some v3 ∧ w'.cell? ⟨b, 1, none⟩ = some v4 ∧ w'.cell? ⟨b, 2, none⟩ = some v5 ∧ w'.cell? ⟨c, 0, none⟩ = some v6 ∧ w'.cell? ⟨c, 1, none⟩ = some v7 ∧ w'.cell? ⟨c, 2, none⟩ = some v8 :=
  ⟨cell_keep h.1 ho, nine_keep h.2 ho⟩
theorem nd_small {x : Nat} (h0 : x ≠ 0) (h : x < 4294967296) : nd x = 1 := by
  have a1 : nd x ≤ 1 := (nd_le x 1).2 h
  have a2 := nd_pos h0
  omega
set_option maxRecDepth 8000 in
set_option maxHeartbeats 8000000 in
theorem round_a (x : Value) (z F : Int) (k : Nat) (w : World) (hx : RatAt w x z k) (hF : halfUp z (2 ^ k) = F) (hz : nd z.natAbs ≤ 4000) (hk : k ≤ 2000) (T : Int) (ht : signI ((F * 2 ^ k + -z * 2 ^ 0) * 2 ^ 1 + -1 * 2 ^ (0 + k)) = T) (hT0 : (T == 0) = false) :
    Calls Tryz.prog 18 #[x] w fun e w' => e = .returned (.tuple #[.int .i64 (keptI F), .bool (keptI F != F)]) ∧ Only [] w w' := by
  obtain ⟨p1, A1, l1, c1, B1, j1, e1, rfl⟩ := hx.open
  have HX := Lib.hid hx
  have hFb : nd F.natAbs ≤ 8000 := by rw [← hF]; exact bound_f z k hz hk
  have HB := Lib.hid (show nd z.natAbs ≤ 4000 ∧ nd F.natAbs ≤ 8000 ∧ k ≤ 2000 from ⟨hz, hFb, hk⟩)
  have HFE := Lib.hid hF
  have HT := Lib.hid ht
  have HB0 := Lib.hid (show (w.alloc (.cells #[.bool p1, .slice A1 l1 c1, .slice B1 j1 e1] 51)).heap[w.heap.size]? = some (.cells #[.bool p1, .slice A1 l1 c1, .slice B1 j1 e1] 51 (0, 0)) from block_new _ _)
  have HS := Lib.hid (Nat.le_trans (bound_a z k hz hk) (show 8000 ≤ 400000 by decide))
  have HS8 := Lib.hid (Nat.le_trans (bound_b z F k hz hFb hk) (show 20000 ≤ 200000 by decide))
  have HFC := Lib.hid (bound_c F hFb)
  clear hx hF hz hFb hk ht
  go_enter Tryz.func18, Tryz.ntmps18
  go_wp2_with first
    | (have hq := HN1; clear hq; go_at_call 24; refine (numQ_ 2 _ (by decide) (by decide)).mono ?_; rintro e w2 ⟨x2, rfl, hr, ho⟩; have HN2 := Lib.hid hr; have HO2 := Lib.hid ho; clear hr ho)
    | (go_at_call 24; refine (numQ_ 1 _ (by decide) (by decide)).mono ?_; rintro e w1 ⟨x1, rfl, hr, ho⟩; have HN1 := Lib.hid hr; have HO1 := Lib.hid ho; clear hr ho)
    | (go_at_call 23; refine (quoQ_ x1 x2 1 0 1 w2 (HN1.out.frame HO2.out) HN2.out (by decide) (by decide) (by decide)).mono ?_; rintro e w3 ⟨x3, rfl, hr, ho⟩; obtain ⟨p3, A3, l3, c3, B3, j3, e3, rfl⟩ := hr.open; have HR3 := Lib.hid hr; have HO3 := Lib.hid ((HO1.out.trans HO2.out).trans ho); have hb0 := HO3.out.at HB0.out (by simp); have HB3 := Lib.hid (block_alloc (o' := .cells #[.bool p3, .slice A3 l3 c3, .slice B3 j3 e3] 51) hb0); have HH3 := Lib.hid (block_new w3 (.cells #[.bool p3, .slice A3 l3 c3, .slice B3 j3 e3] 51)); have q0 := cell_of HB3.out 0 rfl; have q1 := cell_of HB3.out 1 rfl; have q2 := cell_of HB3.out 2 rfl; clear hr ho hb0)
    | (go_at_call 32; refine (addQ_ _ _ z 1 k 1 _ (((HX.out.frame ((Only.refl [] w).alloc _)).frame HO3.out).frame ((Only.refl [] w3).alloc _)) (HR3.out.frame ((Only.refl [] w3).alloc _)) (by have := HB.out; omega) (by decide) (by have := HB.out; omega) (by decide)).mono ?_; rintro e w4 ⟨x4, rfl, hr, ho⟩; have HR4 := Lib.hid hr; have HO4 := Lib.hid ho; clear hr ho)
    | (go_at_call 31; refine (floorQ_ x4 _ (k + 1) w4 HR4.out HS.out).mono ?_; rintro e w5 ⟨x5, rfl, hr, ho⟩; rw [half_floor, HFE.out] at hr; obtain ⟨p5, A5, l5, c5, B5, j5, e5, rfl⟩ := hr.open; have HR5 := Lib.hid hr; have HO5 := Lib.hid (HO4.out.trans ho); clear hr ho)
  have b1 : (w5.alloc (.cells #[.bool p5, .slice A5 l5 c5, .slice B5 j5 e5] 51)).heap[w.heap.size]? = some (.cells #[.bool p1, .slice A1 l1 c1, .slice B1 j1 e1] 51 (0, 0)) := block_alloc (HO5.out.at HB3.out (by simp))
  have b4 : (w5.alloc (.cells #[.bool p5, .slice A5 l5 c5, .slice B5 j5 e5] 51)).heap[w3.heap.size]? = some (.cells #[.bool p3, .slice A3 l3 c3, .slice B3 j3 e3] 51 (0, 0)) := block_alloc (HO5.out.at HH3.out (by simp))
  have b5 : (w5.alloc (.cells #[.bool p5, .slice A5 l5 c5, .slice B5 j5 e5] 51)).heap[w5.heap.size]? = some (.cells #[.bool p5, .slice A5 l5 c5, .slice B5 j5 e5] 51 (0, 0)) := block_new _ _
  have HX7 := Lib.hid ((((HX.out.frame ((Only.refl [] w).alloc _)).frame HO3.out).frame ((Only.refl [] w3).alloc _)).frame HO5.out |>.frame ((Only.refl [] w5).alloc (.cells #[.bool p5, .slice A5 l5 c5, .slice B5 j5 e5] 51)))
  have HH7 := Lib.hid (((HR3.out.frame ((Only.refl [] w3).alloc _)).frame HO5.out).frame ((Only.refl [] w5).alloc (.cells #[.bool p5, .slice A5 l5 c5, .slice B5 j5 e5] 51)))
  have HF7 := Lib.hid (HR5.out.frame ((Only.refl [] w5).alloc (.cells #[.bool p5, .slice A5 l5 c5, .slice B5 j5 e5] 51)))
  have HO7 := Lib.hid ((((((Only.refl [] w).alloc _).trans HO3.out).alloc _).trans HO5.out).alloc (.cells #[.bool p5, .slice A5 l5 c5, .slice B5 j5 e5] 51))
  have HSZ := Lib.hid (show w.heap.size ≤ w5.heap.size from ((((Only.refl [] w).alloc _).trans HO3.out).alloc _ |>.trans HO5.out).size)
  generalize w5.alloc (.cells #[.bool p5, .slice A5 l5 c5, .slice B5 j5 e5] 51) = w7 at *
  have g0 : w7.cell? ⟨w.heap.size, 0, none⟩ = some (.bool p1) ∧ w7.cell? ⟨w.heap.size, 1, none⟩ = some (.slice A1 l1 c1) ∧ w7.cell? ⟨w.heap.size, 2, none⟩ = some (.slice B1 j1 e1) ∧ w7.cell? ⟨w3.heap.size, 0, none⟩ = some (.bool p3) ∧ w7.cell? ⟨w3.heap.size, 1, none⟩ = some (.slice A3 l3 c3) ∧ w7.cell? ⟨w3.heap.size, 2, none⟩ = some (.slice B3 j3 e3) ∧ w7.cell? ⟨w5.heap.size, 0, none⟩ = some (.bool p5) ∧ w7.cell? ⟨w5.heap.size, 1, none⟩ = some (.slice A5 l5 c5) ∧ w7.cell? ⟨w5.heap.size, 2, none⟩ = some (.slice B5 j5 e5) := ⟨cell_of b1 0 rfl, cell_of b1 1 rfl, cell_of b1 2 rfl, cell_of b4 0 rfl, cell_of b4 1 rfl, cell_of b4 2 rfl, cell_of b5 0 rfl, cell_of b5 1 rfl, cell_of b5 2 rfl⟩
  have Hb5 := Lib.hid b5
  clear b1 b4 b5 q0 q1 q2 
  refine wp_region_held_drew (S := fun w' => w'.cell? ⟨w.heap.size, 0, none⟩ = some (.bool p1) ∧ w'.cell? ⟨w.heap.size, 1, none⟩ = some (.slice A1 l1 c1) ∧ w'.cell? ⟨w.heap.size, 2, none⟩ = some (.slice B1 j1 e1) ∧ w'.cell? ⟨w3.heap.size, 0, none⟩ = some (.bool p3) ∧ w'.cell? ⟨w3.heap.size, 1, none⟩ = some (.slice A3 l3 c3) ∧ w'.cell? ⟨w3.heap.size, 2, none⟩ = some (.slice B3 j3 e3) ∧ w'.cell? ⟨w5.heap.size, 0, none⟩ = some (.bool p5) ∧ w'.cell? ⟨w5.heap.size, 1, none⟩ = some (.slice A5 l5 c5) ∧ w'.cell? ⟨w5.heap.size, 2, none⟩ = some (.slice B5 j5 e5)) (by kernel_rfl) g0 (fun hHeld => ?_)
  refine wpAnyH_take (i := 0) (v := ?_) rfl (by kernel_rfl) (by kernel_rfl) (by kernel_rfl) (fun _ _ _ h => h) (Or.inl ⟨by rfl, ?_⟩) (by assumption) ?_
  rotate_left 1
  · intro w hSw
    try dsimp only at hSw
    go_simp
    try with_reducible rfl
  try simp only [List.getElem_toArray, List.getElem_cons_zero, List.getElem_cons_succ, Act.put, List.setIfInBounds_toArray, List.set_cons_zero, List.set_cons_succ]
  refine wpAnyH_take (i := 1) (v := ?_) rfl (by kernel_rfl) (by kernel_rfl) (by kernel_rfl) (fun _ _ _ h => h) (Or.inl ⟨by rfl, ?_⟩) (by assumption) ?_
  rotate_left 1
  · intro w hSw
    try dsimp only at hSw
    go_simp
    try with_reducible rfl
  try simp only [List.getElem_toArray, List.getElem_cons_zero, List.getElem_cons_succ, Act.put, List.setIfInBounds_toArray, List.set_cons_zero, List.set_cons_succ]
  refine wpAnyH_take (i := 3) (v := ?_) rfl (by kernel_rfl) (by kernel_rfl) (by kernel_rfl) (fun _ _ _ h => h) (Or.inl ⟨by rfl, ?_⟩) (by assumption) ?_
  rotate_left 1
  · intro w hSw
    try dsimp only at hSw
    go_simp
    try with_reducible rfl
  try simp only [List.getElem_toArray, List.getElem_cons_zero, List.getElem_cons_succ, Act.put, List.setIfInBounds_toArray, List.set_cons_zero, List.set_cons_succ]
  refine wpAnyH_ready (rs := [2]) (by kernel_rfl) (by simp) ?_
  refine AllReadyH.cons rfl (fun K hK => ?_) AllReadyH.nil
  go_simp
  go_at_call 34; refine (subQ_ _ _ F z 0 k w7.drew (HF7.out.frame (Only.refl [] w7).drew) (HX7.out.frame (Only.refl [] w7).drew) (by have := HB.out; omega) (by have := HB.out; omega) (by decide) (by have := HB.out; omega)).mono ?_; rintro e w8 ⟨x8, rfl, hr, ho⟩; have HO8 := Lib.hid (Only.trans ((Only.refl [] w7).drew) ho : Only [] w7 w8); obtain ⟨p8, A8, l8, c8, B8, j8, e8, rfl⟩ := hr.open; have HR8 := Lib.hid hr; clear hr
  try go_wp2_with fail
  refine hK.out _ _ (nine_keep hHeld ho) (fun hNew => ?_)
  clear hK K hHeld ho
  have hHeld := hNew
  clear hNew
  try simp only [List.getElem_toArray, List.getElem_cons_zero, List.getElem_cons_succ, Act.put, List.setIfInBounds_toArray, List.set_cons_zero, List.set_cons_succ]
  refine wpAnyH_ready (rs := [4]) (by kernel_rfl) (by simp) ?_
  refine AllReadyH.cons rfl (fun K hK => ?_) AllReadyH.nil
  go_simp
  go_at_call 33; refine (cmpQ_ _ _ (F * 2 ^ k + -z * 2 ^ 0) 1 (0 + k) 1 w8 HR8.out (HH7.out.frame HO8.out) HS8.out (by decide) (by have := HB.out; omega) (by decide)).mono ?_; rintro e w9 ⟨rfl, ho⟩; have HO9 := Lib.hid (HO8.out.trans ho); rw [HT.out]
  try go_wp2_with fail
  refine hK.out _ _ (nine_keep hHeld ho) (fun hNew => ?_)
  clear hK K hHeld ho
  have hHeld := hNew
  clear hNew
  try simp only [List.getElem_toArray, List.getElem_cons_zero, List.getElem_cons_succ, Act.put, List.setIfInBounds_toArray, List.set_cons_zero, List.set_cons_succ]
  refine wpAnyH_take (i := 5) (v := ?_) rfl (by kernel_rfl) (by kernel_rfl) (by kernel_rfl) (fun _ _ _ h => h) (Or.inl ⟨by rfl, ?_⟩) (by assumption) ?_
  rotate_left 1
  · intro w hSw
    try dsimp only at hSw
    go_simp
    try with_reducible rfl
  try simp only [List.getElem_toArray, List.getElem_cons_zero, List.getElem_cons_succ, Act.put, List.setIfInBounds_toArray, List.set_cons_zero, List.set_cons_succ]
  refine wpAnyH_take (i := 6) (v := ?_) rfl (by kernel_rfl) (by kernel_rfl) (by kernel_rfl) (fun _ _ _ h => h) (Or.inl ⟨by rfl, ?_⟩) (by assumption) ?_
  rotate_left 1
  · intro w hSw
    try dsimp only at hSw
    go_simp
    try with_reducible rfl
  try simp only [List.getElem_toArray, List.getElem_cons_zero, List.getElem_cons_succ, Act.put, List.setIfInBounds_toArray, List.set_cons_zero, List.set_cons_succ]
  refine wpAnyH_take (i := 7) (v := undef) rfl (by kernel_rfl) (by kernel_rfl) (by kernel_rfl) (fun _ _ _ h => h) (Or.inr ⟨by rfl, rfl⟩) (by assumption) ?_
  try simp only [List.getElem_toArray, List.getElem_cons_zero, List.getElem_cons_succ, Act.put, List.setIfInBounds_toArray, List.set_cons_zero, List.set_cons_succ]
  refine wpAnyH_take (i := 8) (v := undef) rfl (by kernel_rfl) (by kernel_rfl) (by kernel_rfl) (fun _ _ _ h => h) (Or.inr ⟨by rfl, rfl⟩) (by assumption) ?_
  try simp only [List.getElem_toArray, List.getElem_cons_zero, List.getElem_cons_succ, Act.put, List.setIfInBounds_toArray, List.set_cons_zero, List.set_cons_succ]
  refine wpAnyH_take (i := 9) (v := undef) rfl (by kernel_rfl) (by kernel_rfl) (by kernel_rfl) (fun _ _ _ h => h) (Or.inr ⟨by rfl, rfl⟩) (by assumption) ?_
  try simp only [List.getElem_toArray, List.getElem_cons_zero, List.getElem_cons_succ, Act.put, List.setIfInBounds_toArray, List.set_cons_zero, List.set_cons_succ]
  refine wpAnyH_take (i := 10) (v := undef) rfl (by kernel_rfl) (by kernel_rfl) (by kernel_rfl) (fun _ _ _ h => h) (Or.inr ⟨by rfl, rfl⟩) (by assumption) ?_
  try simp only [List.getElem_toArray, List.getElem_cons_zero, List.getElem_cons_succ, Act.put, List.setIfInBounds_toArray, List.set_cons_zero, List.set_cons_succ]
  refine wpAnyH_take (i := 11) (v := ?_) rfl (by kernel_rfl) (by kernel_rfl) (by kernel_rfl) (fun _ _ _ h => h) (Or.inl ⟨by rfl, ?_⟩) (by assumption) ?_
  rotate_left 1
  · intro w hSw
    try dsimp only at hSw
    go_simp
    try with_reducible rfl
  try simp only [List.getElem_toArray, List.getElem_cons_zero, List.getElem_cons_succ, Act.put, List.setIfInBounds_toArray, List.set_cons_zero, List.set_cons_succ]
  refine wpAnyH_take (i := 12) (v := ?_) rfl (by kernel_rfl) (by kernel_rfl) (by kernel_rfl) (fun _ _ _ h => h) (Or.inl ⟨by rfl, ?_⟩) (by assumption) ?_
  rotate_left 1
  · intro w hSw
    try dsimp only at hSw
    go_simp
    try with_reducible rfl
  try simp only [List.getElem_toArray, List.getElem_cons_zero, List.getElem_cons_succ, Act.put, List.setIfInBounds_toArray, List.set_cons_zero, List.set_cons_succ]
  refine wpAnyH_take (i := 13) (v := undef) rfl (by kernel_rfl) (by kernel_rfl) (by kernel_rfl) (fun _ _ _ h => h) (Or.inr ⟨by rfl, rfl⟩) (by assumption) ?_
  try simp only [List.getElem_toArray, List.getElem_cons_zero, List.getElem_cons_succ, Act.put, List.setIfInBounds_toArray, List.set_cons_zero, List.set_cons_succ]
  refine wpAnyH_take (i := 14) (v := undef) rfl (by kernel_rfl) (by kernel_rfl) (by kernel_rfl) (fun _ _ _ h => h) (Or.inr ⟨by rfl, rfl⟩) (by assumption) ?_
  try simp only [List.getElem_toArray, List.getElem_cons_zero, List.getElem_cons_succ, Act.put, List.setIfInBounds_toArray, List.set_cons_zero, List.set_cons_succ]
  refine wpAnyH_take (i := 15) (v := undef) rfl (by kernel_rfl) (by kernel_rfl) (by kernel_rfl) (fun _ _ _ h => h) (Or.inr ⟨by rfl, rfl⟩) (by assumption) ?_
  try simp only [List.getElem_toArray, List.getElem_cons_zero, List.getElem_cons_succ, Act.put, List.setIfInBounds_toArray, List.set_cons_zero, List.set_cons_succ]
  refine wpAnyH_take (i := 16) (v := undef) rfl (by kernel_rfl) (by kernel_rfl) (by kernel_rfl) (fun _ _ _ h => h) (Or.inr ⟨by rfl, rfl⟩) (by assumption) ?_
  try simp only [List.getElem_toArray, List.getElem_cons_zero, List.getElem_cons_succ, Act.put, List.setIfInBounds_toArray, List.set_cons_zero, List.set_cons_succ]
  refine wpAnyH_take (i := 17) (v := undef) rfl (by kernel_rfl) (by kernel_rfl) (by kernel_rfl) (fun _ _ _ h => h) (Or.inr ⟨by rfl, rfl⟩) (by assumption) ?_
  try simp only [List.getElem_toArray, List.getElem_cons_zero, List.getElem_cons_succ, Act.put, List.setIfInBounds_toArray, List.set_cons_zero, List.set_cons_succ]
  refine wpAnyH_take (i := 18) (v := undef) rfl (by kernel_rfl) (by kernel_rfl) (by kernel_rfl) (fun _ _ _ h => h) (Or.inr ⟨by rfl, rfl⟩) (by assumption) ?_
  try simp only [List.getElem_toArray, List.getElem_cons_zero, List.getElem_cons_succ, Act.put, List.setIfInBounds_toArray, List.set_cons_zero, List.set_cons_succ]
  refine wpAnyH_take (i := 19) (v := ?_) rfl (by kernel_rfl) (by kernel_rfl) (by kernel_rfl) (fun _ _ _ h => h) (Or.inl ⟨by rfl, ?_⟩) (by assumption) ?_
  rotate_left 1
  · intro w hSw
    try dsimp only at hSw
    go_simp
    try with_reducible rfl
  try simp only [List.getElem_toArray, List.getElem_cons_zero, List.getElem_cons_succ, Act.put, List.setIfInBounds_toArray, List.set_cons_zero, List.set_cons_succ]
  refine wpAnyH_done (by kernel_rfl) ?_ _
  all_goals (go_wp2_with fail)
  have HOW := Lib.hid (HO7.out.trans HO9.out)
  have HG := Lib.hid (HF7.out.frame HO9.out)
  have hg9 := HO9.out.at Hb5.out (by simp)
  have g1 : w9.cell? ⟨w5.heap.size, 0, none⟩ = some (.bool p5) ∧ w9.cell? ⟨w5.heap.size, 1, none⟩ = some (.slice A5 l5 c5) ∧ w9.cell? ⟨w5.heap.size, 2, none⟩ = some (.slice B5 j5 e5) := ⟨cell_of hg9 0 rfl, cell_of hg9 1 rfl, cell_of hg9 2 rfl⟩
  clear hg9 g0
  have hcl : F < -2147483648 ∨ 2147483647 < F ∨ F = 0 ∨ (0 < F ∧ F ≤ 2147483647) ∨ (F < 0 ∧ -2147483648 ≤ F) := by omega
  rcases hcl with hcl | hcl | hcl | hcl | hcl
  · obtain ⟨T1, hT1⟩ : ∃ T1, signI (F * 2 ^ 0 + -(-2147483648) * 2 ^ 0) = T1 := ⟨_, rfl⟩
    have d1 : decide (T1 < 0) = true := by rw [← hT1]; exact sign_low hcl
    have HT1 := Lib.hid hT1
    clear hT1
    have HK := Lib.hid (show keptI F = -2147483648 ∧ ((-2147483648 : Int) != F) = true by unfold keptI; rw [if_pos hcl]; exact ⟨by omega, by simp; omega⟩)
    clear hcl
    first
    | (go_region_held3 (fun w' => w'.cell? ⟨w5.heap.size, 0, none⟩ = some (.bool p5) ∧ w'.cell? ⟨w5.heap.size, 1, none⟩ = some (.slice A5 l5 c5) ∧ w'.cell? ⟨w5.heap.size, 2, none⟩ = some (.slice B5 j5 e5)) (first | assumption | exact g1 | exact three_keep (by assumption) (by assumption : Only _ _ _)) (first
      | (have hq := HN20; clear hq; go_at_call 33; refine (cmpQ_ _ _ (F) (-2147483648) 0 0 w20 (HG.out.frame HO20.out) HN20.out (by have := HB.out; have := HFC.out; omega) (by decide) (by decide) (by decide)).mono ?_; rintro e w21 ⟨rfl, ho⟩; have HO21 := Lib.hid (HO20.out.trans ho); rw [HT1.out])
      | (go_at_call 24; refine (numQ_ (-2147483648) w9.drew (by decide) (by decide)).mono ?_; rintro e w20 ⟨x20, rfl, hr, ho⟩; have HN20 := Lib.hid hr; have HO20 := Lib.hid (Only.trans ((Only.refl [] w9).drew) ho : Only [] w9 w20); clear hr)))
    | fail "region 5"
    go_wp2_with fail
    go_ret2
    exact ⟨by rw [HK.out.1, HK.out.2]; first | done | rfl, HOW.out.trans HO21.out⟩
  · obtain ⟨T1, hT1⟩ : ∃ T1, signI (F * 2 ^ 0 + -(-2147483648) * 2 ^ 0) = T1 := ⟨_, rfl⟩
    have d1 : decide (T1 < 0) = false := by rw [← hT1]; exact sign_low_no (by omega)
    have HT1 := Lib.hid hT1
    clear hT1
    obtain ⟨T2, hT2⟩ : ∃ T2, signI (F * 2 ^ 0 + -2147483647 * 2 ^ 0) = T2 := ⟨_, rfl⟩
    have d2 : decide (0 < T2) = true := by rw [← hT2]; exact sign_high hcl
    have HT2 := Lib.hid hT2
    clear hT2
    have HK := Lib.hid (show keptI F = 2147483647 ∧ ((2147483647 : Int) != F) = true by unfold keptI; rw [if_neg (by omega), if_pos hcl]; exact ⟨by omega, by simp; omega⟩)
    clear hcl
    first
    | (go_region_held3 (fun w' => w'.cell? ⟨w5.heap.size, 0, none⟩ = some (.bool p5) ∧ w'.cell? ⟨w5.heap.size, 1, none⟩ = some (.slice A5 l5 c5) ∧ w'.cell? ⟨w5.heap.size, 2, none⟩ = some (.slice B5 j5 e5)) (first | assumption | exact g1 | exact three_keep (by assumption) (by assumption : Only _ _ _)) (first
      | (have hq := HN20; clear hq; go_at_call 33; refine (cmpQ_ _ _ (F) (-2147483648) 0 0 w20 (HG.out.frame HO20.out) HN20.out (by have := HB.out; have := HFC.out; omega) (by decide) (by decide) (by decide)).mono ?_; rintro e w21 ⟨rfl, ho⟩; have HO21 := Lib.hid (HO20.out.trans ho); rw [HT1.out])
      | (go_at_call 24; refine (numQ_ (-2147483648) w9.drew (by decide) (by decide)).mono ?_; rintro e w20 ⟨x20, rfl, hr, ho⟩; have HN20 := Lib.hid hr; have HO20 := Lib.hid (Only.trans ((Only.refl [] w9).drew) ho : Only [] w9 w20); clear hr)))
    | fail "region 5"
    go_wp2_with fail
    have g2 := three_at g1 HO21.out
    first
    | (go_region_held3 (fun w' => w'.cell? ⟨w5.heap.size, 0, none⟩ = some (.bool p5) ∧ w'.cell? ⟨w5.heap.size, 1, none⟩ = some (.slice A5 l5 c5) ∧ w'.cell? ⟨w5.heap.size, 2, none⟩ = some (.slice B5 j5 e5)) (first | assumption | exact g2 | exact three_keep (by assumption) (by assumption : Only _ _ _)) (first
      | (have hq := HN22; clear hq; go_at_call 33; refine (cmpQ_ _ _ (F) (2147483647) 0 0 w22 (HG.out.frame (HO21.out.trans HO22.out)) HN22.out (by have := HB.out; have := HFC.out; omega) (by decide) (by decide) (by decide)).mono ?_; rintro e w23 ⟨rfl, ho⟩; have HO23 := Lib.hid (HO22.out.trans ho); rw [HT2.out])
      | (go_at_call 24; refine (numQ_ (2147483647) w21.drew (by decide) (by decide)).mono ?_; rintro e w22 ⟨x22, rfl, hr, ho⟩; have HN22 := Lib.hid hr; have HO22 := Lib.hid (Only.trans ((Only.refl [] w21).drew) ho : Only [] w21 w22); clear hr)))
    | fail "region 7"
    go_wp2_with fail
    go_ret2
    exact ⟨by rw [HK.out.1, HK.out.2]; first | done | rfl, (HOW.out.trans HO21.out).trans HO23.out⟩
  · obtain ⟨T1, hT1⟩ : ∃ T1, signI (F * 2 ^ 0 + -(-2147483648) * 2 ^ 0) = T1 := ⟨_, rfl⟩
    have d1 : decide (T1 < 0) = false := by rw [← hT1]; exact sign_low_no (by omega)
    have HT1 := Lib.hid hT1
    clear hT1
    obtain ⟨T2, hT2⟩ : ∃ T2, signI (F * 2 ^ 0 + -2147483647 * 2 ^ 0) = T2 := ⟨_, rfl⟩
    have d2 : decide (0 < T2) = false := by rw [← hT2]; exact sign_high_no (by omega)
    have HT2 := Lib.hid hT2
    clear hT2
    have HK := Lib.hid (show keptI F = 0 ∧ ((0 : Int) != F) = false by unfold keptI; rw [if_neg (by omega), if_neg (by omega)]; exact ⟨by omega, by simp; omega⟩)
    have hl : l5 = 0 := by
      obtain ⟨_, hnum, _⟩ := HG.out.whole
      obtain ⟨A', c', hv, _⟩ := hnum
      cases hv
      rw [hcl]; rfl
    subst hl
    clear hcl
    first
    | (go_region_held3 (fun w' => w'.cell? ⟨w5.heap.size, 0, none⟩ = some (.bool p5) ∧ w'.cell? ⟨w5.heap.size, 1, none⟩ = some (.slice A5 0 c5) ∧ w'.cell? ⟨w5.heap.size, 2, none⟩ = some (.slice B5 j5 e5)) (first | assumption | exact g1 | exact three_keep (by assumption) (by assumption : Only _ _ _)) (first
      | (have hq := HN20; clear hq; go_at_call 33; refine (cmpQ_ _ _ (F) (-2147483648) 0 0 w20 (HG.out.frame HO20.out) HN20.out (by have := HB.out; have := HFC.out; omega) (by decide) (by decide) (by decide)).mono ?_; rintro e w21 ⟨rfl, ho⟩; have HO21 := Lib.hid (HO20.out.trans ho); rw [HT1.out])
      | (go_at_call 24; refine (numQ_ (-2147483648) w9.drew (by decide) (by decide)).mono ?_; rintro e w20 ⟨x20, rfl, hr, ho⟩; have HN20 := Lib.hid hr; have HO20 := Lib.hid (Only.trans ((Only.refl [] w9).drew) ho : Only [] w9 w20); clear hr)))
    | fail "region 5"
    go_wp2_with fail
    have g2 := three_at g1 HO21.out
    first
    | (go_region_held3 (fun w' => w'.cell? ⟨w5.heap.size, 0, none⟩ = some (.bool p5) ∧ w'.cell? ⟨w5.heap.size, 1, none⟩ = some (.slice A5 0 c5) ∧ w'.cell? ⟨w5.heap.size, 2, none⟩ = some (.slice B5 j5 e5)) (first | assumption | exact g2 | exact three_keep (by assumption) (by assumption : Only _ _ _)) (first
      | (have hq := HN22; clear hq; go_at_call 33; refine (cmpQ_ _ _ (F) (2147483647) 0 0 w22 (HG.out.frame (HO21.out.trans HO22.out)) HN22.out (by have := HB.out; have := HFC.out; omega) (by decide) (by decide) (by decide)).mono ?_; rintro e w23 ⟨rfl, ho⟩; have HO23 := Lib.hid (HO22.out.trans ho); rw [HT2.out])
      | (go_at_call 24; refine (numQ_ (2147483647) w21.drew (by decide) (by decide)).mono ?_; rintro e w22 ⟨x22, rfl, hr, ho⟩; have HN22 := Lib.hid hr; have HO22 := Lib.hid (Only.trans ((Only.refl [] w21).drew) ho : Only [] w21 w22); clear hr)))
    | fail "region 7"
    obtain ⟨k0, k1, k2⟩ := three_at g2 HO23.out
    go_wp2_with fail
    go_ret2
    exact ⟨by rw [HK.out.1, HK.out.2]; first | done | rfl, (HOW.out.trans HO21.out).trans HO23.out⟩
  · obtain ⟨T1, hT1⟩ : ∃ T1, signI (F * 2 ^ 0 + -(-2147483648) * 2 ^ 0) = T1 := ⟨_, rfl⟩
    have d1 : decide (T1 < 0) = false := by rw [← hT1]; exact sign_low_no (by omega)
    have HT1 := Lib.hid hT1
    clear hT1
    obtain ⟨T2, hT2⟩ : ∃ T2, signI (F * 2 ^ 0 + -2147483647 * 2 ^ 0) = T2 := ⟨_, rfl⟩
    have d2 : decide (0 < T2) = false := by rw [← hT2]; exact sign_high_no (by omega)
    have HT2 := Lib.hid hT2
    clear hT2
    obtain ⟨gg, hgg⟩ : ∃ gg : Int, gg = (F).natAbs := ⟨_, rfl⟩
    have HK := Lib.hid (show keptI F = gg ∧ (gg != F) = false by unfold keptI; rw [if_neg (by omega), if_neg (by omega)]; exact ⟨by omega, by simp; omega⟩)
    have W1 : IntKind.i64.wrap gg = gg := IntWalk.i64_in _ (by omega)
    have W2 : IntKind.i64.wrap (-gg) = -gg := IntWalk.i64_in _ (by omega)
    obtain ⟨hp, hnum, _⟩ := HG.out.whole
    obtain ⟨hl, b8, o8, hA, g8⟩ := hnum.digit (by omega)
    rw [show nd (F).natAbs = 1 from nd_small (by omega) (by omega)] at hl
    rw [show ((dg (F).natAbs 0 : Nat) : Int) = gg by rw [dg_one _ (by omega), hgg]] at g8
    rw [decide_eq_false (by omega)] at hp
    have G8 := Lib.hid g8
    clear hgg hnum g8 hcl
    subst hp hl
    obtain rfl := hA
    first
    | (go_region_held3 (fun w' => w'.cell? ⟨w5.heap.size, 0, none⟩ = some (.bool false) ∧ w'.cell? ⟨w5.heap.size, 1, none⟩ = some (.slice (some ⟨b8, o8, none⟩) 1 c5) ∧ w'.cell? ⟨w5.heap.size, 2, none⟩ = some (.slice B5 j5 e5)) (first | assumption | exact g1 | exact three_keep (by assumption) (by assumption : Only _ _ _)) (first
      | (have hq := HN20; clear hq; go_at_call 33; refine (cmpQ_ _ _ (F) (-2147483648) 0 0 w20 (HG.out.frame HO20.out) HN20.out (by have := HB.out; have := HFC.out; omega) (by decide) (by decide) (by decide)).mono ?_; rintro e w21 ⟨rfl, ho⟩; have HO21 := Lib.hid (HO20.out.trans ho); rw [HT1.out])
      | (go_at_call 24; refine (numQ_ (-2147483648) w9.drew (by decide) (by decide)).mono ?_; rintro e w20 ⟨x20, rfl, hr, ho⟩; have HN20 := Lib.hid hr; have HO20 := Lib.hid (Only.trans ((Only.refl [] w9).drew) ho : Only [] w9 w20); clear hr)))
    | fail "region 5"
    go_wp2_with fail
    have g2 := three_at g1 HO21.out
    first
    | (go_region_held3 (fun w' => w'.cell? ⟨w5.heap.size, 0, none⟩ = some (.bool false) ∧ w'.cell? ⟨w5.heap.size, 1, none⟩ = some (.slice (some ⟨b8, o8, none⟩) 1 c5) ∧ w'.cell? ⟨w5.heap.size, 2, none⟩ = some (.slice B5 j5 e5)) (first | assumption | exact g2 | exact three_keep (by assumption) (by assumption : Only _ _ _)) (first
      | (have hq := HN22; clear hq; go_at_call 33; refine (cmpQ_ _ _ (F) (2147483647) 0 0 w22 (HG.out.frame (HO21.out.trans HO22.out)) HN22.out (by have := HB.out; have := HFC.out; omega) (by decide) (by decide) (by decide)).mono ?_; rintro e w23 ⟨rfl, ho⟩; have HO23 := Lib.hid (HO22.out.trans ho); rw [HT2.out])
      | (go_at_call 24; refine (numQ_ (2147483647) w21.drew (by decide) (by decide)).mono ?_; rintro e w22 ⟨x22, rfl, hr, ho⟩; have HN22 := Lib.hid hr; have HO22 := Lib.hid (Only.trans ((Only.refl [] w21).drew) ho : Only [] w21 w22); clear hr)))
    | fail "region 7"
    obtain ⟨k0, k1, k2⟩ := three_at g2 HO23.out
    have k3 := cell_keep (cell_keep G8.out HO21.out) HO23.out
    go_wp2_with fail
    go_ret2
    exact ⟨by rw [HK.out.1, HK.out.2]; first | done | rfl, (HOW.out.trans HO21.out).trans HO23.out⟩
  · obtain ⟨T1, hT1⟩ : ∃ T1, signI (F * 2 ^ 0 + -(-2147483648) * 2 ^ 0) = T1 := ⟨_, rfl⟩
    have d1 : decide (T1 < 0) = false := by rw [← hT1]; exact sign_low_no (by omega)
    have HT1 := Lib.hid hT1
    clear hT1
    obtain ⟨T2, hT2⟩ : ∃ T2, signI (F * 2 ^ 0 + -2147483647 * 2 ^ 0) = T2 := ⟨_, rfl⟩
    have d2 : decide (0 < T2) = false := by rw [← hT2]; exact sign_high_no (by omega)
    have HT2 := Lib.hid hT2
    clear hT2
    obtain ⟨gg, hgg⟩ : ∃ gg : Int, gg = (F).natAbs := ⟨_, rfl⟩
    have HK := Lib.hid (show keptI F = -gg ∧ (-gg != F) = false by unfold keptI; rw [if_neg (by omega), if_neg (by omega)]; exact ⟨by omega, by simp; omega⟩)
    have W1 : IntKind.i64.wrap gg = gg := IntWalk.i64_in _ (by omega)
    have W2 : IntKind.i64.wrap (-gg) = -gg := IntWalk.i64_in _ (by omega)
    obtain ⟨hp, hnum, _⟩ := HG.out.whole
    obtain ⟨hl, b8, o8, hA, g8⟩ := hnum.digit (by omega)
    rw [show nd (F).natAbs = 1 from nd_small (by omega) (by omega)] at hl
    rw [show ((dg (F).natAbs 0 : Nat) : Int) = gg by rw [dg_one _ (by omega), hgg]] at g8
    rw [decide_eq_true (by omega)] at hp
    have G8 := Lib.hid g8
    clear hgg hnum g8 hcl
    subst hp hl
    obtain rfl := hA
    first
    | (go_region_held3 (fun w' => w'.cell? ⟨w5.heap.size, 0, none⟩ = some (.bool true) ∧ w'.cell? ⟨w5.heap.size, 1, none⟩ = some (.slice (some ⟨b8, o8, none⟩) 1 c5) ∧ w'.cell? ⟨w5.heap.size, 2, none⟩ = some (.slice B5 j5 e5)) (first | assumption | exact g1 | exact three_keep (by assumption) (by assumption : Only _ _ _)) (first
      | (have hq := HN20; clear hq; go_at_call 33; refine (cmpQ_ _ _ (F) (-2147483648) 0 0 w20 (HG.out.frame HO20.out) HN20.out (by have := HB.out; have := HFC.out; omega) (by decide) (by decide) (by decide)).mono ?_; rintro e w21 ⟨rfl, ho⟩; have HO21 := Lib.hid (HO20.out.trans ho); rw [HT1.out])
      | (go_at_call 24; refine (numQ_ (-2147483648) w9.drew (by decide) (by decide)).mono ?_; rintro e w20 ⟨x20, rfl, hr, ho⟩; have HN20 := Lib.hid hr; have HO20 := Lib.hid (Only.trans ((Only.refl [] w9).drew) ho : Only [] w9 w20); clear hr)))
    | fail "region 5"
    go_wp2_with fail
    have g2 := three_at g1 HO21.out
    first
    | (go_region_held3 (fun w' => w'.cell? ⟨w5.heap.size, 0, none⟩ = some (.bool true) ∧ w'.cell? ⟨w5.heap.size, 1, none⟩ = some (.slice (some ⟨b8, o8, none⟩) 1 c5) ∧ w'.cell? ⟨w5.heap.size, 2, none⟩ = some (.slice B5 j5 e5)) (first | assumption | exact g2 | exact three_keep (by assumption) (by assumption : Only _ _ _)) (first
      | (have hq := HN22; clear hq; go_at_call 33; refine (cmpQ_ _ _ (F) (2147483647) 0 0 w22 (HG.out.frame (HO21.out.trans HO22.out)) HN22.out (by have := HB.out; have := HFC.out; omega) (by decide) (by decide) (by decide)).mono ?_; rintro e w23 ⟨rfl, ho⟩; have HO23 := Lib.hid (HO22.out.trans ho); rw [HT2.out])
      | (go_at_call 24; refine (numQ_ (2147483647) w21.drew (by decide) (by decide)).mono ?_; rintro e w22 ⟨x22, rfl, hr, ho⟩; have HN22 := Lib.hid hr; have HO22 := Lib.hid (Only.trans ((Only.refl [] w21).drew) ho : Only [] w21 w22); clear hr)))
    | fail "region 7"
    obtain ⟨k0, k1, k2⟩ := three_at g2 HO23.out
    have k3 := cell_keep (cell_keep G8.out HO21.out) HO23.out
    go_wp2_with fail
    go_ret2
    exact ⟨by rw [HK.out.1, HK.out.2]; first | done | rfl, (HOW.out.trans HO21.out).trans HO23.out⟩
set_option maxRecDepth 8000 in
set_option maxHeartbeats 8000000 in
theorem round_b (x : Value) (z F : Int) (k : Nat) (w : World) (hx : RatAt w x z k) (hF : halfUp z (2 ^ k) = F) (hz : nd z.natAbs ≤ 4000) (hk : k ≤ 2000) (ht : signI ((F * 2 ^ k + -z * 2 ^ 0) * 2 ^ 1 + -1 * 2 ^ (0 + k)) = 0) (hF0 : F = 0) :
    Calls Tryz.prog 18 #[x] w fun e w' => e = .returned (.tuple #[.int .i64 (keptI F), .bool (keptI F != F)]) ∧ Only [] w w' := by
  obtain ⟨p1, A1, l1, c1, B1, j1, e1, rfl⟩ := hx.open
  have HX := Lib.hid hx
  have hFb : nd F.natAbs ≤ 8000 := by rw [← hF]; exact bound_f z k hz hk
  have HB := Lib.hid (show nd z.natAbs ≤ 4000 ∧ nd F.natAbs ≤ 8000 ∧ k ≤ 2000 from ⟨hz, hFb, hk⟩)
  have HFE := Lib.hid hF
  have HT := Lib.hid ht
  have HB0 := Lib.hid (show (w.alloc (.cells #[.bool p1, .slice A1 l1 c1, .slice B1 j1 e1] 51)).heap[w.heap.size]? = some (.cells #[.bool p1, .slice A1 l1 c1, .slice B1 j1 e1] 51 (0, 0)) from block_new _ _)
  have HS := Lib.hid (Nat.le_trans (bound_a z k hz hk) (show 8000 ≤ 400000 by decide))
  have HS8 := Lib.hid (Nat.le_trans (bound_b z F k hz hFb hk) (show 20000 ≤ 200000 by decide))
  have HFC := Lib.hid (bound_c F hFb)
  clear hx hF hz hFb hk ht
  have HF0 := Lib.hid hF0
  clear hF0
  go_enter Tryz.func18, Tryz.ntmps18
  go_wp2_with first
    | (have hq := HN1; clear hq; go_at_call 24; refine (numQ_ 2 _ (by decide) (by decide)).mono ?_; rintro e w2 ⟨x2, rfl, hr, ho⟩; have HN2 := Lib.hid hr; have HO2 := Lib.hid ho; clear hr ho)
    | (go_at_call 24; refine (numQ_ 1 _ (by decide) (by decide)).mono ?_; rintro e w1 ⟨x1, rfl, hr, ho⟩; have HN1 := Lib.hid hr; have HO1 := Lib.hid ho; clear hr ho)
    | (go_at_call 23; refine (quoQ_ x1 x2 1 0 1 w2 (HN1.out.frame HO2.out) HN2.out (by decide) (by decide) (by decide)).mono ?_; rintro e w3 ⟨x3, rfl, hr, ho⟩; obtain ⟨p3, A3, l3, c3, B3, j3, e3, rfl⟩ := hr.open; have HR3 := Lib.hid hr; have HO3 := Lib.hid ((HO1.out.trans HO2.out).trans ho); have hb0 := HO3.out.at HB0.out (by simp); have HB3 := Lib.hid (block_alloc (o' := .cells #[.bool p3, .slice A3 l3 c3, .slice B3 j3 e3] 51) hb0); have HH3 := Lib.hid (block_new w3 (.cells #[.bool p3, .slice A3 l3 c3, .slice B3 j3 e3] 51)); have q0 := cell_of HB3.out 0 rfl; have q1 := cell_of HB3.out 1 rfl; have q2 := cell_of HB3.out 2 rfl; clear hr ho hb0)
    | (go_at_call 32; refine (addQ_ _ _ z 1 k 1 _ (((HX.out.frame ((Only.refl [] w).alloc _)).frame HO3.out).frame ((Only.refl [] w3).alloc _)) (HR3.out.frame ((Only.refl [] w3).alloc _)) (by have := HB.out; omega) (by decide) (by have := HB.out; omega) (by decide)).mono ?_; rintro e w4 ⟨x4, rfl, hr, ho⟩; have HR4 := Lib.hid hr; have HO4 := Lib.hid ho; clear hr ho)
    | (go_at_call 31; refine (floorQ_ x4 _ (k + 1) w4 HR4.out HS.out).mono ?_; rintro e w5 ⟨x5, rfl, hr, ho⟩; rw [half_floor, HFE.out] at hr; obtain ⟨p5, A5, l5, c5, B5, j5, e5, rfl⟩ := hr.open; have HR5 := Lib.hid hr; have HO5 := Lib.hid (HO4.out.trans ho); clear hr ho)
  have b1 : (w5.alloc (.cells #[.bool p5, .slice A5 l5 c5, .slice B5 j5 e5] 51)).heap[w.heap.size]? = some (.cells #[.bool p1, .slice A1 l1 c1, .slice B1 j1 e1] 51 (0, 0)) := block_alloc (HO5.out.at HB3.out (by simp))
  have b4 : (w5.alloc (.cells #[.bool p5, .slice A5 l5 c5, .slice B5 j5 e5] 51)).heap[w3.heap.size]? = some (.cells #[.bool p3, .slice A3 l3 c3, .slice B3 j3 e3] 51 (0, 0)) := block_alloc (HO5.out.at HH3.out (by simp))
  have b5 : (w5.alloc (.cells #[.bool p5, .slice A5 l5 c5, .slice B5 j5 e5] 51)).heap[w5.heap.size]? = some (.cells #[.bool p5, .slice A5 l5 c5, .slice B5 j5 e5] 51 (0, 0)) := block_new _ _
  have HX7 := Lib.hid ((((HX.out.frame ((Only.refl [] w).alloc _)).frame HO3.out).frame ((Only.refl [] w3).alloc _)).frame HO5.out |>.frame ((Only.refl [] w5).alloc (.cells #[.bool p5, .slice A5 l5 c5, .slice B5 j5 e5] 51)))
  have HH7 := Lib.hid (((HR3.out.frame ((Only.refl [] w3).alloc _)).frame HO5.out).frame ((Only.refl [] w5).alloc (.cells #[.bool p5, .slice A5 l5 c5, .slice B5 j5 e5] 51)))
  have HF7 := Lib.hid (HR5.out.frame ((Only.refl [] w5).alloc (.cells #[.bool p5, .slice A5 l5 c5, .slice B5 j5 e5] 51)))
  have HO7 := Lib.hid ((((((Only.refl [] w).alloc _).trans HO3.out).alloc _).trans HO5.out).alloc (.cells #[.bool p5, .slice A5 l5 c5, .slice B5 j5 e5] 51))
  have HSZ := Lib.hid (show w.heap.size ≤ w5.heap.size from ((((Only.refl [] w).alloc _).trans HO3.out).alloc _ |>.trans HO5.out).size)
  generalize w5.alloc (.cells #[.bool p5, .slice A5 l5 c5, .slice B5 j5 e5] 51) = w7 at *
  obtain rfl : l5 = 0 := by
    obtain ⟨_, h1, _⟩ := HF7.out.whole
    obtain ⟨A', c', hv, _⟩ := h1
    cases hv
    rw [HF0.out]
    exact if_pos rfl
  have g0 : w7.cell? ⟨w.heap.size, 0, none⟩ = some (.bool p1) ∧ w7.cell? ⟨w.heap.size, 1, none⟩ = some (.slice A1 l1 c1) ∧ w7.cell? ⟨w.heap.size, 2, none⟩ = some (.slice B1 j1 e1) ∧ w7.cell? ⟨w3.heap.size, 0, none⟩ = some (.bool p3) ∧ w7.cell? ⟨w3.heap.size, 1, none⟩ = some (.slice A3 l3 c3) ∧ w7.cell? ⟨w3.heap.size, 2, none⟩ = some (.slice B3 j3 e3) ∧ w7.cell? ⟨w5.heap.size, 0, none⟩ = some (.bool p5) ∧ w7.cell? ⟨w5.heap.size, 1, none⟩ = some (.slice A5 0 c5) ∧ w7.cell? ⟨w5.heap.size, 2, none⟩ = some (.slice B5 j5 e5) := ⟨cell_of b1 0 rfl, cell_of b1 1 rfl, cell_of b1 2 rfl, cell_of b4 0 rfl, cell_of b4 1 rfl, cell_of b4 2 rfl, cell_of b5 0 rfl, cell_of b5 1 rfl, cell_of b5 2 rfl⟩
  have Hb5 := Lib.hid b5
  clear b1 b4 b5 q0 q1 q2 
  refine wp_region_held_drew (S := fun w' => w'.cell? ⟨w.heap.size, 0, none⟩ = some (.bool p1) ∧ w'.cell? ⟨w.heap.size, 1, none⟩ = some (.slice A1 l1 c1) ∧ w'.cell? ⟨w.heap.size, 2, none⟩ = some (.slice B1 j1 e1) ∧ w'.cell? ⟨w3.heap.size, 0, none⟩ = some (.bool p3) ∧ w'.cell? ⟨w3.heap.size, 1, none⟩ = some (.slice A3 l3 c3) ∧ w'.cell? ⟨w3.heap.size, 2, none⟩ = some (.slice B3 j3 e3) ∧ w'.cell? ⟨w5.heap.size, 0, none⟩ = some (.bool p5) ∧ w'.cell? ⟨w5.heap.size, 1, none⟩ = some (.slice A5 0 c5) ∧ w'.cell? ⟨w5.heap.size, 2, none⟩ = some (.slice B5 j5 e5)) (by kernel_rfl) g0 (fun hHeld => ?_)
  refine wpAnyH_take (i := 0) (v := ?_) rfl (by kernel_rfl) (by kernel_rfl) (by kernel_rfl) (fun _ _ _ h => h) (Or.inl ⟨by rfl, ?_⟩) (by assumption) ?_
  rotate_left 1
  · intro w hSw
    try dsimp only at hSw
    go_simp
    try with_reducible rfl
  try simp only [List.getElem_toArray, List.getElem_cons_zero, List.getElem_cons_succ, Act.put, List.setIfInBounds_toArray, List.set_cons_zero, List.set_cons_succ]
  refine wpAnyH_take (i := 1) (v := ?_) rfl (by kernel_rfl) (by kernel_rfl) (by kernel_rfl) (fun _ _ _ h => h) (Or.inl ⟨by rfl, ?_⟩) (by assumption) ?_
  rotate_left 1
  · intro w hSw
    try dsimp only at hSw
    go_simp
    try with_reducible rfl
  try simp only [List.getElem_toArray, List.getElem_cons_zero, List.getElem_cons_succ, Act.put, List.setIfInBounds_toArray, List.set_cons_zero, List.set_cons_succ]
  refine wpAnyH_take (i := 3) (v := ?_) rfl (by kernel_rfl) (by kernel_rfl) (by kernel_rfl) (fun _ _ _ h => h) (Or.inl ⟨by rfl, ?_⟩) (by assumption) ?_
  rotate_left 1
  · intro w hSw
    try dsimp only at hSw
    go_simp
    try with_reducible rfl
  try simp only [List.getElem_toArray, List.getElem_cons_zero, List.getElem_cons_succ, Act.put, List.setIfInBounds_toArray, List.set_cons_zero, List.set_cons_succ]
  refine wpAnyH_ready (rs := [2]) (by kernel_rfl) (by simp) ?_
  refine AllReadyH.cons rfl (fun K hK => ?_) AllReadyH.nil
  go_simp
  go_at_call 34; refine (subQ_ _ _ F z 0 k w7.drew (HF7.out.frame (Only.refl [] w7).drew) (HX7.out.frame (Only.refl [] w7).drew) (by have := HB.out; omega) (by have := HB.out; omega) (by decide) (by have := HB.out; omega)).mono ?_; rintro e w8 ⟨x8, rfl, hr, ho⟩; have HO8 := Lib.hid (Only.trans ((Only.refl [] w7).drew) ho : Only [] w7 w8); obtain ⟨p8, A8, l8, c8, B8, j8, e8, rfl⟩ := hr.open; have HR8 := Lib.hid hr; clear hr
  try go_wp2_with fail
  refine hK.out _ _ (nine_keep hHeld ho) (fun hNew => ?_)
  clear hK K hHeld ho
  have hHeld := hNew
  clear hNew
  try simp only [List.getElem_toArray, List.getElem_cons_zero, List.getElem_cons_succ, Act.put, List.setIfInBounds_toArray, List.set_cons_zero, List.set_cons_succ]
  refine wpAnyH_ready (rs := [4]) (by kernel_rfl) (by simp) ?_
  refine AllReadyH.cons rfl (fun K hK => ?_) AllReadyH.nil
  go_simp
  go_at_call 33; refine (cmpQ_ _ _ (F * 2 ^ k + -z * 2 ^ 0) 1 (0 + k) 1 w8 HR8.out (HH7.out.frame HO8.out) HS8.out (by decide) (by have := HB.out; omega) (by decide)).mono ?_; rintro e w9 ⟨rfl, ho⟩; have HO9 := Lib.hid (HO8.out.trans ho); rw [HT.out]
  try go_wp2_with fail
  refine hK.out _ _ (nine_keep hHeld ho) (fun hNew => ?_)
  clear hK K hHeld ho
  have hHeld := hNew
  clear hNew
  try simp only [List.getElem_toArray, List.getElem_cons_zero, List.getElem_cons_succ, Act.put, List.setIfInBounds_toArray, List.set_cons_zero, List.set_cons_succ]
  refine wpAnyH_take (i := 5) (v := ?_) rfl (by kernel_rfl) (by kernel_rfl) (by kernel_rfl) (fun _ _ _ h => h) (Or.inl ⟨by rfl, ?_⟩) (by assumption) ?_
  rotate_left 1
  · intro w hSw
    try dsimp only at hSw
    go_simp
    try with_reducible rfl
  try simp only [List.getElem_toArray, List.getElem_cons_zero, List.getElem_cons_succ, Act.put, List.setIfInBounds_toArray, List.set_cons_zero, List.set_cons_succ]
  refine wpAnyH_take (i := 6) (v := ?_) rfl (by kernel_rfl) (by kernel_rfl) (by kernel_rfl) (fun _ _ _ h => h) (Or.inl ⟨by rfl, ?_⟩) (by assumption) ?_
  rotate_left 1
  · intro w hSw
    try dsimp only at hSw
    go_simp
    try with_reducible rfl
  try simp only [List.getElem_toArray, List.getElem_cons_zero, List.getElem_cons_succ, Act.put, List.setIfInBounds_toArray, List.set_cons_zero, List.set_cons_succ]
  refine wpAnyH_take (i := 7) (v := ?_) rfl (by kernel_rfl) (by kernel_rfl) (by kernel_rfl) (fun _ _ _ h => h) (Or.inl ⟨by rfl, ?_⟩) (by assumption) ?_
  rotate_left 1
  · intro w hSw
    try dsimp only at hSw
    go_simp
    try with_reducible rfl
  try simp only [List.getElem_toArray, List.getElem_cons_zero, List.getElem_cons_succ, Act.put, List.setIfInBounds_toArray, List.set_cons_zero, List.set_cons_succ]
  refine wpAnyH_take (i := 8) (v := ?_) rfl (by kernel_rfl) (by kernel_rfl) (by kernel_rfl) (fun _ _ _ h => h) (Or.inl ⟨by rfl, ?_⟩) (by assumption) ?_
  rotate_left 1
  · intro w hSw
    try dsimp only at hSw
    go_simp
    try with_reducible rfl
  try simp only [List.getElem_toArray, List.getElem_cons_zero, List.getElem_cons_succ, Act.put, List.setIfInBounds_toArray, List.set_cons_zero, List.set_cons_succ]
  refine wpAnyH_take (i := 9) (v := ?_) rfl (by kernel_rfl) (by kernel_rfl) (by kernel_rfl) (fun _ _ _ h => h) (Or.inl ⟨by rfl, ?_⟩) (by assumption) ?_
  rotate_left 1
  · intro w hSw
    try dsimp only at hSw
    go_simp
    try with_reducible rfl
  try simp only [List.getElem_toArray, List.getElem_cons_zero, List.getElem_cons_succ, Act.put, List.setIfInBounds_toArray, List.set_cons_zero, List.set_cons_succ]
  refine wpAnyH_take (i := 10) (v := ?_) rfl (by kernel_rfl) (by kernel_rfl) (by kernel_rfl) (fun _ _ _ h => h) (Or.inl ⟨by rfl, ?_⟩) (by assumption) ?_
  rotate_left 1
  · intro w hSw
    try dsimp only at hSw
    go_simp
    try with_reducible rfl
  try simp only [List.getElem_toArray, List.getElem_cons_zero, List.getElem_cons_succ, Act.put, List.setIfInBounds_toArray, List.set_cons_zero, List.set_cons_succ]
  refine wpAnyH_take (i := 11) (v := ?_) rfl (by kernel_rfl) (by kernel_rfl) (by kernel_rfl) (fun _ _ _ h => h) (Or.inl ⟨by rfl, ?_⟩) (by assumption) ?_
  rotate_left 1
  · intro w hSw
    try dsimp only at hSw
    go_simp
    try with_reducible rfl
  try simp only [List.getElem_toArray, List.getElem_cons_zero, List.getElem_cons_succ, Act.put, List.setIfInBounds_toArray, List.set_cons_zero, List.set_cons_succ]
  refine wpAnyH_take (i := 12) (v := ?_) rfl (by kernel_rfl) (by kernel_rfl) (by kernel_rfl) (fun _ _ _ h => h) (Or.inl ⟨by rfl, ?_⟩) (by assumption) ?_
  rotate_left 1
  · intro w hSw
    try dsimp only at hSw
    go_simp
    try with_reducible rfl
  try simp only [List.getElem_toArray, List.getElem_cons_zero, List.getElem_cons_succ, Act.put, List.setIfInBounds_toArray, List.set_cons_zero, List.set_cons_succ]
  refine wpAnyH_take (i := 13) (v := undef) rfl (by kernel_rfl) (by kernel_rfl) (by kernel_rfl) (fun _ _ _ h => h) (Or.inr ⟨by rfl, rfl⟩) (by assumption) ?_
  try simp only [List.getElem_toArray, List.getElem_cons_zero, List.getElem_cons_succ, Act.put, List.setIfInBounds_toArray, List.set_cons_zero, List.set_cons_succ]
  refine wpAnyH_take (i := 14) (v := undef) rfl (by kernel_rfl) (by kernel_rfl) (by kernel_rfl) (fun _ _ _ h => h) (Or.inr ⟨by rfl, rfl⟩) (by assumption) ?_
  try simp only [List.getElem_toArray, List.getElem_cons_zero, List.getElem_cons_succ, Act.put, List.setIfInBounds_toArray, List.set_cons_zero, List.set_cons_succ]
  refine wpAnyH_take (i := 15) (v := undef) rfl (by kernel_rfl) (by kernel_rfl) (by kernel_rfl) (fun _ _ _ h => h) (Or.inr ⟨by rfl, rfl⟩) (by assumption) ?_
  try simp only [List.getElem_toArray, List.getElem_cons_zero, List.getElem_cons_succ, Act.put, List.setIfInBounds_toArray, List.set_cons_zero, List.set_cons_succ]
  refine wpAnyH_take (i := 16) (v := undef) rfl (by kernel_rfl) (by kernel_rfl) (by kernel_rfl) (fun _ _ _ h => h) (Or.inr ⟨by rfl, rfl⟩) (by assumption) ?_
  try simp only [List.getElem_toArray, List.getElem_cons_zero, List.getElem_cons_succ, Act.put, List.setIfInBounds_toArray, List.set_cons_zero, List.set_cons_succ]
  refine wpAnyH_take (i := 17) (v := undef) rfl (by kernel_rfl) (by kernel_rfl) (by kernel_rfl) (fun _ _ _ h => h) (Or.inr ⟨by rfl, rfl⟩) (by assumption) ?_
  try simp only [List.getElem_toArray, List.getElem_cons_zero, List.getElem_cons_succ, Act.put, List.setIfInBounds_toArray, List.set_cons_zero, List.set_cons_succ]
  refine wpAnyH_take (i := 18) (v := undef) rfl (by kernel_rfl) (by kernel_rfl) (by kernel_rfl) (fun _ _ _ h => h) (Or.inr ⟨by rfl, rfl⟩) (by assumption) ?_
  try simp only [List.getElem_toArray, List.getElem_cons_zero, List.getElem_cons_succ, Act.put, List.setIfInBounds_toArray, List.set_cons_zero, List.set_cons_succ]
  refine wpAnyH_take (i := 19) (v := ?_) rfl (by kernel_rfl) (by kernel_rfl) (by kernel_rfl) (fun _ _ _ h => h) (Or.inl ⟨by rfl, ?_⟩) (by assumption) ?_
  rotate_left 1
  · intro w hSw
    try dsimp only at hSw
    go_simp
    try with_reducible rfl
  try simp only [List.getElem_toArray, List.getElem_cons_zero, List.getElem_cons_succ, Act.put, List.setIfInBounds_toArray, List.set_cons_zero, List.set_cons_succ]
  refine wpAnyH_done (by kernel_rfl) ?_ _
  all_goals (go_wp2_with fail)
  have HOW := Lib.hid (HO7.out.trans HO9.out)
  have HG := Lib.hid (HF7.out.frame HO9.out)
  have hg9 := HO9.out.at Hb5.out (by simp)
  have g1 : w9.cell? ⟨w5.heap.size, 0, none⟩ = some (.bool p5) ∧ w9.cell? ⟨w5.heap.size, 1, none⟩ = some (.slice A5 0 c5) ∧ w9.cell? ⟨w5.heap.size, 2, none⟩ = some (.slice B5 j5 e5) := ⟨cell_of hg9 0 rfl, cell_of hg9 1 rfl, cell_of hg9 2 rfl⟩
  clear hg9 g0
  have hcl : F = 0 := by exact HF0.out
  · obtain ⟨T1, hT1⟩ : ∃ T1, signI (F * 2 ^ 0 + -(-2147483648) * 2 ^ 0) = T1 := ⟨_, rfl⟩
    have d1 : decide (T1 < 0) = false := by rw [← hT1]; exact sign_low_no (by omega)
    have HT1 := Lib.hid hT1
    clear hT1
    obtain ⟨T2, hT2⟩ : ∃ T2, signI (F * 2 ^ 0 + -2147483647 * 2 ^ 0) = T2 := ⟨_, rfl⟩
    have d2 : decide (0 < T2) = false := by rw [← hT2]; exact sign_high_no (by omega)
    have HT2 := Lib.hid hT2
    clear hT2
    have HK := Lib.hid (show keptI F = 0 ∧ ((0 : Int) != F) = false by unfold keptI; rw [if_neg (by omega), if_neg (by omega)]; exact ⟨by omega, by simp; omega⟩)
    clear hcl
    first
    | (go_region_held3 (fun w' => w'.cell? ⟨w5.heap.size, 0, none⟩ = some (.bool p5) ∧ w'.cell? ⟨w5.heap.size, 1, none⟩ = some (.slice A5 0 c5) ∧ w'.cell? ⟨w5.heap.size, 2, none⟩ = some (.slice B5 j5 e5)) (first | assumption | exact g1 | exact three_keep (by assumption) (by assumption : Only _ _ _)) (first
      | (have hq := HN20; clear hq; go_at_call 33; refine (cmpQ_ _ _ (F) (-2147483648) 0 0 w20 (HG.out.frame HO20.out) HN20.out (by have := HB.out; have := HFC.out; omega) (by decide) (by decide) (by decide)).mono ?_; rintro e w21 ⟨rfl, ho⟩; have HO21 := Lib.hid (HO20.out.trans ho); rw [HT1.out])
      | (go_at_call 24; refine (numQ_ (-2147483648) w9.drew (by decide) (by decide)).mono ?_; rintro e w20 ⟨x20, rfl, hr, ho⟩; have HN20 := Lib.hid hr; have HO20 := Lib.hid (Only.trans ((Only.refl [] w9).drew) ho : Only [] w9 w20); clear hr)))
    | fail "region 5"
    go_wp2_with fail
    have g2 := three_at g1 HO21.out
    first
    | (go_region_held3 (fun w' => w'.cell? ⟨w5.heap.size, 0, none⟩ = some (.bool p5) ∧ w'.cell? ⟨w5.heap.size, 1, none⟩ = some (.slice A5 0 c5) ∧ w'.cell? ⟨w5.heap.size, 2, none⟩ = some (.slice B5 j5 e5)) (first | assumption | exact g2 | exact three_keep (by assumption) (by assumption : Only _ _ _)) (first
      | (have hq := HN22; clear hq; go_at_call 33; refine (cmpQ_ _ _ (F) (2147483647) 0 0 w22 (HG.out.frame (HO21.out.trans HO22.out)) HN22.out (by have := HB.out; have := HFC.out; omega) (by decide) (by decide) (by decide)).mono ?_; rintro e w23 ⟨rfl, ho⟩; have HO23 := Lib.hid (HO22.out.trans ho); rw [HT2.out])
      | (go_at_call 24; refine (numQ_ (2147483647) w21.drew (by decide) (by decide)).mono ?_; rintro e w22 ⟨x22, rfl, hr, ho⟩; have HN22 := Lib.hid hr; have HO22 := Lib.hid (Only.trans ((Only.refl [] w21).drew) ho : Only [] w21 w22); clear hr)))
    | fail "region 7"
    obtain ⟨k0, k1, k2⟩ := three_at g2 HO23.out
    go_wp2_with fail
    go_ret2
    exact ⟨by rw [HK.out.1, HK.out.2]; first | done | rfl, (HOW.out.trans HO21.out).trans HO23.out⟩
set_option maxRecDepth 8000 in
set_option maxHeartbeats 8000000 in
theorem round_c (x : Value) (z F : Int) (k : Nat) (w : World) (hx : RatAt w x z k) (hF : halfUp z (2 ^ k) = F) (hz : nd z.natAbs ≤ 4000) (hk : k ≤ 2000) (ht : signI ((F * 2 ^ k + -z * 2 ^ 0) * 2 ^ 1 + -1 * 2 ^ (0 + k)) = 0) (hF0 : F ≠ 0) (hF2 : F.natAbs % 2 = 0) :
    Calls Tryz.prog 18 #[x] w fun e w' => e = .returned (.tuple #[.int .i64 (keptI F), .bool (keptI F != F)]) ∧ Only [] w w' := by
  obtain ⟨p1, A1, l1, c1, B1, j1, e1, rfl⟩ := hx.open
  have HX := Lib.hid hx
  have hFb : nd F.natAbs ≤ 8000 := by rw [← hF]; exact bound_f z k hz hk
  have HB := Lib.hid (show nd z.natAbs ≤ 4000 ∧ nd F.natAbs ≤ 8000 ∧ k ≤ 2000 from ⟨hz, hFb, hk⟩)
  have HFE := Lib.hid hF
  have HT := Lib.hid ht
  have HB0 := Lib.hid (show (w.alloc (.cells #[.bool p1, .slice A1 l1 c1, .slice B1 j1 e1] 51)).heap[w.heap.size]? = some (.cells #[.bool p1, .slice A1 l1 c1, .slice B1 j1 e1] 51 (0, 0)) from block_new _ _)
  have HS := Lib.hid (Nat.le_trans (bound_a z k hz hk) (show 8000 ≤ 400000 by decide))
  have HS8 := Lib.hid (Nat.le_trans (bound_b z F k hz hFb hk) (show 20000 ≤ 200000 by decide))
  have HFC := Lib.hid (bound_c F hFb)
  clear hx hF hz hFb hk ht
  have HF0 := Lib.hid hF0
  clear hF0
  have HF2 := Lib.hid hF2
  clear hF2
  go_enter Tryz.func18, Tryz.ntmps18
  go_wp2_with first
    | (have hq := HN1; clear hq; go_at_call 24; refine (numQ_ 2 _ (by decide) (by decide)).mono ?_; rintro e w2 ⟨x2, rfl, hr, ho⟩; have HN2 := Lib.hid hr; have HO2 := Lib.hid ho; clear hr ho)
    | (go_at_call 24; refine (numQ_ 1 _ (by decide) (by decide)).mono ?_; rintro e w1 ⟨x1, rfl, hr, ho⟩; have HN1 := Lib.hid hr; have HO1 := Lib.hid ho; clear hr ho)
    | (go_at_call 23; refine (quoQ_ x1 x2 1 0 1 w2 (HN1.out.frame HO2.out) HN2.out (by decide) (by decide) (by decide)).mono ?_; rintro e w3 ⟨x3, rfl, hr, ho⟩; obtain ⟨p3, A3, l3, c3, B3, j3, e3, rfl⟩ := hr.open; have HR3 := Lib.hid hr; have HO3 := Lib.hid ((HO1.out.trans HO2.out).trans ho); have hb0 := HO3.out.at HB0.out (by simp); have HB3 := Lib.hid (block_alloc (o' := .cells #[.bool p3, .slice A3 l3 c3, .slice B3 j3 e3] 51) hb0); have HH3 := Lib.hid (block_new w3 (.cells #[.bool p3, .slice A3 l3 c3, .slice B3 j3 e3] 51)); have q0 := cell_of HB3.out 0 rfl; have q1 := cell_of HB3.out 1 rfl; have q2 := cell_of HB3.out 2 rfl; clear hr ho hb0)
    | (go_at_call 32; refine (addQ_ _ _ z 1 k 1 _ (((HX.out.frame ((Only.refl [] w).alloc _)).frame HO3.out).frame ((Only.refl [] w3).alloc _)) (HR3.out.frame ((Only.refl [] w3).alloc _)) (by have := HB.out; omega) (by decide) (by have := HB.out; omega) (by decide)).mono ?_; rintro e w4 ⟨x4, rfl, hr, ho⟩; have HR4 := Lib.hid hr; have HO4 := Lib.hid ho; clear hr ho)
    | (go_at_call 31; refine (floorQ_ x4 _ (k + 1) w4 HR4.out HS.out).mono ?_; rintro e w5 ⟨x5, rfl, hr, ho⟩; rw [half_floor, HFE.out] at hr; obtain ⟨p5, A5, l5, c5, B5, j5, e5, rfl⟩ := hr.open; have HR5 := Lib.hid hr; have HO5 := Lib.hid (HO4.out.trans ho); clear hr ho)
  have b1 : (w5.alloc (.cells #[.bool p5, .slice A5 l5 c5, .slice B5 j5 e5] 51)).heap[w.heap.size]? = some (.cells #[.bool p1, .slice A1 l1 c1, .slice B1 j1 e1] 51 (0, 0)) := block_alloc (HO5.out.at HB3.out (by simp))
  have b4 : (w5.alloc (.cells #[.bool p5, .slice A5 l5 c5, .slice B5 j5 e5] 51)).heap[w3.heap.size]? = some (.cells #[.bool p3, .slice A3 l3 c3, .slice B3 j3 e3] 51 (0, 0)) := block_alloc (HO5.out.at HH3.out (by simp))
  have b5 : (w5.alloc (.cells #[.bool p5, .slice A5 l5 c5, .slice B5 j5 e5] 51)).heap[w5.heap.size]? = some (.cells #[.bool p5, .slice A5 l5 c5, .slice B5 j5 e5] 51 (0, 0)) := block_new _ _
  have HX7 := Lib.hid ((((HX.out.frame ((Only.refl [] w).alloc _)).frame HO3.out).frame ((Only.refl [] w3).alloc _)).frame HO5.out |>.frame ((Only.refl [] w5).alloc (.cells #[.bool p5, .slice A5 l5 c5, .slice B5 j5 e5] 51)))
  have HH7 := Lib.hid (((HR3.out.frame ((Only.refl [] w3).alloc _)).frame HO5.out).frame ((Only.refl [] w5).alloc (.cells #[.bool p5, .slice A5 l5 c5, .slice B5 j5 e5] 51)))
  have HF7 := Lib.hid (HR5.out.frame ((Only.refl [] w5).alloc (.cells #[.bool p5, .slice A5 l5 c5, .slice B5 j5 e5] 51)))
  have HO7 := Lib.hid ((((((Only.refl [] w).alloc _).trans HO3.out).alloc _).trans HO5.out).alloc (.cells #[.bool p5, .slice A5 l5 c5, .slice B5 j5 e5] 51))
  have HSZ := Lib.hid (show w.heap.size ≤ w5.heap.size from ((((Only.refl [] w).alloc _).trans HO3.out).alloc _ |>.trans HO5.out).size)
  generalize w5.alloc (.cells #[.bool p5, .slice A5 l5 c5, .slice B5 j5 e5] 51) = w7 at *
  obtain ⟨lp, ln, lm, b9, o9, dv, rfl, g9, hdv⟩ : ∃ (lp : (0 : Int) < (l5 : Int)) (ln : decide (0 < l5) = true) (lm : 0 < l5) (b9 o9 : Nat) (dv : Int), A5 = some ⟨b9, o9, none⟩ ∧ w7.cell? ⟨b9, o9, none⟩ = some (.int .u64 dv) ∧ (dv.tmod 2 == 1) = false := by
    obtain ⟨_, h1, _⟩ := HF7.out.whole
    obtain ⟨hl, b9, o9, hA, hc⟩ := h1.digit (by have := HF0.out; omega)
    have h2 := nd_pos (x := F.natAbs) (by have := HF0.out; omega)
    refine ⟨by omega, decide_eq_true (by omega), by omega, b9, o9, _, hA, hc, ?_⟩
    have e1 : dg F.natAbs 0 = F.natAbs / 1 % 4294967296 := rfl
    have h3 := HF2.out
    rw [Int.tmod_eq_emod_of_nonneg (by omega)]
    exact beq_eq_false_iff_ne.2 (by omega)
  have g0 : w7.cell? ⟨b9, o9, none⟩ = some (.int .u64 dv) ∧ w7.cell? ⟨w.heap.size, 0, none⟩ = some (.bool p1) ∧ w7.cell? ⟨w.heap.size, 1, none⟩ = some (.slice A1 l1 c1) ∧ w7.cell? ⟨w.heap.size, 2, none⟩ = some (.slice B1 j1 e1) ∧ w7.cell? ⟨w3.heap.size, 0, none⟩ = some (.bool p3) ∧ w7.cell? ⟨w3.heap.size, 1, none⟩ = some (.slice A3 l3 c3) ∧ w7.cell? ⟨w3.heap.size, 2, none⟩ = some (.slice B3 j3 e3) ∧ w7.cell? ⟨w5.heap.size, 0, none⟩ = some (.bool p5) ∧ w7.cell? ⟨w5.heap.size, 1, none⟩ = some (.slice (some ⟨b9, o9, none⟩) l5 c5) ∧ w7.cell? ⟨w5.heap.size, 2, none⟩ = some (.slice B5 j5 e5) := ⟨g9, cell_of b1 0 rfl, cell_of b1 1 rfl, cell_of b1 2 rfl, cell_of b4 0 rfl, cell_of b4 1 rfl, cell_of b4 2 rfl, cell_of b5 0 rfl, cell_of b5 1 rfl, cell_of b5 2 rfl⟩
  have Hb5 := Lib.hid b5
  clear b1 b4 b5 q0 q1 q2 g9
  first
  | (go_region_held3 (fun w' => w'.cell? ⟨b9, o9, none⟩ = some (.int .u64 dv) ∧ w'.cell? ⟨w.heap.size, 0, none⟩ = some (.bool p1) ∧ w'.cell? ⟨w.heap.size, 1, none⟩ = some (.slice A1 l1 c1) ∧ w'.cell? ⟨w.heap.size, 2, none⟩ = some (.slice B1 j1 e1) ∧ w'.cell? ⟨w3.heap.size, 0, none⟩ = some (.bool p3) ∧ w'.cell? ⟨w3.heap.size, 1, none⟩ = some (.slice A3 l3 c3) ∧ w'.cell? ⟨w3.heap.size, 2, none⟩ = some (.slice B3 j3 e3) ∧ w'.cell? ⟨w5.heap.size, 0, none⟩ = some (.bool p5) ∧ w'.cell? ⟨w5.heap.size, 1, none⟩ = some (.slice (some ⟨b9, o9, none⟩) l5 c5) ∧ w'.cell? ⟨w5.heap.size, 2, none⟩ = some (.slice B5 j5 e5)) (first | assumption | exact g0 | exact ten_keep (by assumption) (by assumption : Only _ _ _)) (first
    | (have hq := HR8; clear hq; go_at_call 33; refine (cmpQ_ _ _ (F * 2 ^ k + -z * 2 ^ 0) 1 (0 + k) 1 w8 HR8.out (HH7.out.frame HO8.out) HS8.out (by decide) (by have := HB.out; omega) (by decide)).mono ?_; rintro e w9 ⟨rfl, ho⟩; have HO9 := Lib.hid (HO8.out.trans ho); rw [HT.out])
    | (go_at_call 34; refine (subQ_ _ _ F z 0 k w7.drew (HF7.out.frame (Only.refl [] w7).drew) (HX7.out.frame (Only.refl [] w7).drew) (by have := HB.out; omega) (by have := HB.out; omega) (by decide) (by have := HB.out; omega)).mono ?_; rintro e w8 ⟨x8, rfl, hr, ho⟩; have HO8 := Lib.hid (Only.trans ((Only.refl [] w7).drew) ho : Only [] w7 w8); obtain ⟨p8, A8, l8, c8, B8, j8, e8, rfl⟩ := hr.open; have HR8 := Lib.hid hr; clear hr)))
  | fail "region 3"
  all_goals (go_wp2_with fail)
  have HOW := Lib.hid (HO7.out.trans HO9.out)
  have HG := Lib.hid (HF7.out.frame HO9.out)
  have hg9 := HO9.out.at Hb5.out (by simp)
  have g1 : w9.cell? ⟨w5.heap.size, 0, none⟩ = some (.bool p5) ∧ w9.cell? ⟨w5.heap.size, 1, none⟩ = some (.slice (some ⟨b9, o9, none⟩) l5 c5) ∧ w9.cell? ⟨w5.heap.size, 2, none⟩ = some (.slice B5 j5 e5) := ⟨cell_of hg9 0 rfl, cell_of hg9 1 rfl, cell_of hg9 2 rfl⟩
  clear hg9 g0
  have hcl : F < -2147483648 ∨ 2147483647 < F ∨ (0 < F ∧ F ≤ 2147483647) ∨ (F < 0 ∧ -2147483648 ≤ F) := by have := HF0.out; omega
  rcases hcl with hcl | hcl | hcl | hcl
  · obtain ⟨T1, hT1⟩ : ∃ T1, signI (F * 2 ^ 0 + -(-2147483648) * 2 ^ 0) = T1 := ⟨_, rfl⟩
    have d1 : decide (T1 < 0) = true := by rw [← hT1]; exact sign_low hcl
    have HT1 := Lib.hid hT1
    clear hT1
    have HK := Lib.hid (show keptI F = -2147483648 ∧ ((-2147483648 : Int) != F) = true by unfold keptI; rw [if_pos hcl]; exact ⟨by omega, by simp; omega⟩)
    clear hcl
    first
    | (go_region_held3 (fun w' => w'.cell? ⟨w5.heap.size, 0, none⟩ = some (.bool p5) ∧ w'.cell? ⟨w5.heap.size, 1, none⟩ = some (.slice (some ⟨b9, o9, none⟩) l5 c5) ∧ w'.cell? ⟨w5.heap.size, 2, none⟩ = some (.slice B5 j5 e5)) (first | assumption | exact g1 | exact three_keep (by assumption) (by assumption : Only _ _ _)) (first
      | (have hq := HN20; clear hq; go_at_call 33; refine (cmpQ_ _ _ (F) (-2147483648) 0 0 w20 (HG.out.frame HO20.out) HN20.out (by have := HB.out; have := HFC.out; omega) (by decide) (by decide) (by decide)).mono ?_; rintro e w21 ⟨rfl, ho⟩; have HO21 := Lib.hid (HO20.out.trans ho); rw [HT1.out])
      | (go_at_call 24; refine (numQ_ (-2147483648) w9.drew (by decide) (by decide)).mono ?_; rintro e w20 ⟨x20, rfl, hr, ho⟩; have HN20 := Lib.hid hr; have HO20 := Lib.hid (Only.trans ((Only.refl [] w9).drew) ho : Only [] w9 w20); clear hr)))
    | fail "region 5"
    go_wp2_with fail
    go_ret2
    exact ⟨by rw [HK.out.1, HK.out.2]; first | done | rfl, HOW.out.trans HO21.out⟩
  · obtain ⟨T1, hT1⟩ : ∃ T1, signI (F * 2 ^ 0 + -(-2147483648) * 2 ^ 0) = T1 := ⟨_, rfl⟩
    have d1 : decide (T1 < 0) = false := by rw [← hT1]; exact sign_low_no (by omega)
    have HT1 := Lib.hid hT1
    clear hT1
    obtain ⟨T2, hT2⟩ : ∃ T2, signI (F * 2 ^ 0 + -2147483647 * 2 ^ 0) = T2 := ⟨_, rfl⟩
    have d2 : decide (0 < T2) = true := by rw [← hT2]; exact sign_high hcl
    have HT2 := Lib.hid hT2
    clear hT2
    have HK := Lib.hid (show keptI F = 2147483647 ∧ ((2147483647 : Int) != F) = true by unfold keptI; rw [if_neg (by omega), if_pos hcl]; exact ⟨by omega, by simp; omega⟩)
    clear hcl
    first
    | (go_region_held3 (fun w' => w'.cell? ⟨w5.heap.size, 0, none⟩ = some (.bool p5) ∧ w'.cell? ⟨w5.heap.size, 1, none⟩ = some (.slice (some ⟨b9, o9, none⟩) l5 c5) ∧ w'.cell? ⟨w5.heap.size, 2, none⟩ = some (.slice B5 j5 e5)) (first | assumption | exact g1 | exact three_keep (by assumption) (by assumption : Only _ _ _)) (first
      | (have hq := HN20; clear hq; go_at_call 33; refine (cmpQ_ _ _ (F) (-2147483648) 0 0 w20 (HG.out.frame HO20.out) HN20.out (by have := HB.out; have := HFC.out; omega) (by decide) (by decide) (by decide)).mono ?_; rintro e w21 ⟨rfl, ho⟩; have HO21 := Lib.hid (HO20.out.trans ho); rw [HT1.out])
      | (go_at_call 24; refine (numQ_ (-2147483648) w9.drew (by decide) (by decide)).mono ?_; rintro e w20 ⟨x20, rfl, hr, ho⟩; have HN20 := Lib.hid hr; have HO20 := Lib.hid (Only.trans ((Only.refl [] w9).drew) ho : Only [] w9 w20); clear hr)))
    | fail "region 5"
    go_wp2_with fail
    have g2 := three_at g1 HO21.out
    first
    | (go_region_held3 (fun w' => w'.cell? ⟨w5.heap.size, 0, none⟩ = some (.bool p5) ∧ w'.cell? ⟨w5.heap.size, 1, none⟩ = some (.slice (some ⟨b9, o9, none⟩) l5 c5) ∧ w'.cell? ⟨w5.heap.size, 2, none⟩ = some (.slice B5 j5 e5)) (first | assumption | exact g2 | exact three_keep (by assumption) (by assumption : Only _ _ _)) (first
      | (have hq := HN22; clear hq; go_at_call 33; refine (cmpQ_ _ _ (F) (2147483647) 0 0 w22 (HG.out.frame (HO21.out.trans HO22.out)) HN22.out (by have := HB.out; have := HFC.out; omega) (by decide) (by decide) (by decide)).mono ?_; rintro e w23 ⟨rfl, ho⟩; have HO23 := Lib.hid (HO22.out.trans ho); rw [HT2.out])
      | (go_at_call 24; refine (numQ_ (2147483647) w21.drew (by decide) (by decide)).mono ?_; rintro e w22 ⟨x22, rfl, hr, ho⟩; have HN22 := Lib.hid hr; have HO22 := Lib.hid (Only.trans ((Only.refl [] w21).drew) ho : Only [] w21 w22); clear hr)))
    | fail "region 7"
    go_wp2_with fail
    go_ret2
    exact ⟨by rw [HK.out.1, HK.out.2]; first | done | rfl, (HOW.out.trans HO21.out).trans HO23.out⟩
  · obtain ⟨T1, hT1⟩ : ∃ T1, signI (F * 2 ^ 0 + -(-2147483648) * 2 ^ 0) = T1 := ⟨_, rfl⟩
    have d1 : decide (T1 < 0) = false := by rw [← hT1]; exact sign_low_no (by omega)
    have HT1 := Lib.hid hT1
    clear hT1
    obtain ⟨T2, hT2⟩ : ∃ T2, signI (F * 2 ^ 0 + -2147483647 * 2 ^ 0) = T2 := ⟨_, rfl⟩
    have d2 : decide (0 < T2) = false := by rw [← hT2]; exact sign_high_no (by omega)
    have HT2 := Lib.hid hT2
    clear hT2
    obtain ⟨gg, hgg⟩ : ∃ gg : Int, gg = (F).natAbs := ⟨_, rfl⟩
    have HK := Lib.hid (show keptI F = gg ∧ (gg != F) = false by unfold keptI; rw [if_neg (by omega), if_neg (by omega)]; exact ⟨by omega, by simp; omega⟩)
    have W1 : IntKind.i64.wrap gg = gg := IntWalk.i64_in _ (by omega)
    have W2 : IntKind.i64.wrap (-gg) = -gg := IntWalk.i64_in _ (by omega)
    obtain ⟨hp, hnum, _⟩ := HG.out.whole
    obtain ⟨hl, b8, o8, hA, g8⟩ := hnum.digit (by omega)
    rw [show nd (F).natAbs = 1 from nd_small (by omega) (by omega)] at hl
    rw [show ((dg (F).natAbs 0 : Nat) : Int) = gg by rw [dg_one _ (by omega), hgg]] at g8
    rw [decide_eq_false (by omega)] at hp
    have G8 := Lib.hid g8
    clear hgg hnum g8 hcl
    subst hp hl
    obtain ⟨hA1, hA2⟩ : b8 = b9 ∧ o8 = o9 := by simp only [Option.some.injEq, Addr.mk.injEq, and_true] at hA; exact ⟨hA.1.symm, hA.2.symm⟩
    subst hA1 hA2
    clear hA
    first
    | (go_region_held3 (fun w' => w'.cell? ⟨w5.heap.size, 0, none⟩ = some (.bool false) ∧ w'.cell? ⟨w5.heap.size, 1, none⟩ = some (.slice (some ⟨b8, o8, none⟩) 1 c5) ∧ w'.cell? ⟨w5.heap.size, 2, none⟩ = some (.slice B5 j5 e5)) (first | assumption | exact g1 | exact three_keep (by assumption) (by assumption : Only _ _ _)) (first
      | (have hq := HN20; clear hq; go_at_call 33; refine (cmpQ_ _ _ (F) (-2147483648) 0 0 w20 (HG.out.frame HO20.out) HN20.out (by have := HB.out; have := HFC.out; omega) (by decide) (by decide) (by decide)).mono ?_; rintro e w21 ⟨rfl, ho⟩; have HO21 := Lib.hid (HO20.out.trans ho); rw [HT1.out])
      | (go_at_call 24; refine (numQ_ (-2147483648) w9.drew (by decide) (by decide)).mono ?_; rintro e w20 ⟨x20, rfl, hr, ho⟩; have HN20 := Lib.hid hr; have HO20 := Lib.hid (Only.trans ((Only.refl [] w9).drew) ho : Only [] w9 w20); clear hr)))
    | fail "region 5"
    go_wp2_with fail
    have g2 := three_at g1 HO21.out
    first
    | (go_region_held3 (fun w' => w'.cell? ⟨w5.heap.size, 0, none⟩ = some (.bool false) ∧ w'.cell? ⟨w5.heap.size, 1, none⟩ = some (.slice (some ⟨b8, o8, none⟩) 1 c5) ∧ w'.cell? ⟨w5.heap.size, 2, none⟩ = some (.slice B5 j5 e5)) (first | assumption | exact g2 | exact three_keep (by assumption) (by assumption : Only _ _ _)) (first
      | (have hq := HN22; clear hq; go_at_call 33; refine (cmpQ_ _ _ (F) (2147483647) 0 0 w22 (HG.out.frame (HO21.out.trans HO22.out)) HN22.out (by have := HB.out; have := HFC.out; omega) (by decide) (by decide) (by decide)).mono ?_; rintro e w23 ⟨rfl, ho⟩; have HO23 := Lib.hid (HO22.out.trans ho); rw [HT2.out])
      | (go_at_call 24; refine (numQ_ (2147483647) w21.drew (by decide) (by decide)).mono ?_; rintro e w22 ⟨x22, rfl, hr, ho⟩; have HN22 := Lib.hid hr; have HO22 := Lib.hid (Only.trans ((Only.refl [] w21).drew) ho : Only [] w21 w22); clear hr)))
    | fail "region 7"
    obtain ⟨k0, k1, k2⟩ := three_at g2 HO23.out
    have k3 := cell_keep (cell_keep G8.out HO21.out) HO23.out
    go_wp2_with fail
    go_ret2
    exact ⟨by rw [HK.out.1, HK.out.2]; first | done | rfl, (HOW.out.trans HO21.out).trans HO23.out⟩
  · obtain ⟨T1, hT1⟩ : ∃ T1, signI (F * 2 ^ 0 + -(-2147483648) * 2 ^ 0) = T1 := ⟨_, rfl⟩
    have d1 : decide (T1 < 0) = false := by rw [← hT1]; exact sign_low_no (by omega)
    have HT1 := Lib.hid hT1
    clear hT1
    obtain ⟨T2, hT2⟩ : ∃ T2, signI (F * 2 ^ 0 + -2147483647 * 2 ^ 0) = T2 := ⟨_, rfl⟩
    have d2 : decide (0 < T2) = false := by rw [← hT2]; exact sign_high_no (by omega)
    have HT2 := Lib.hid hT2
    clear hT2
    obtain ⟨gg, hgg⟩ : ∃ gg : Int, gg = (F).natAbs := ⟨_, rfl⟩
    have HK := Lib.hid (show keptI F = -gg ∧ (-gg != F) = false by unfold keptI; rw [if_neg (by omega), if_neg (by omega)]; exact ⟨by omega, by simp; omega⟩)
    have W1 : IntKind.i64.wrap gg = gg := IntWalk.i64_in _ (by omega)
    have W2 : IntKind.i64.wrap (-gg) = -gg := IntWalk.i64_in _ (by omega)
    obtain ⟨hp, hnum, _⟩ := HG.out.whole
    obtain ⟨hl, b8, o8, hA, g8⟩ := hnum.digit (by omega)
    rw [show nd (F).natAbs = 1 from nd_small (by omega) (by omega)] at hl
    rw [show ((dg (F).natAbs 0 : Nat) : Int) = gg by rw [dg_one _ (by omega), hgg]] at g8
    rw [decide_eq_true (by omega)] at hp
    have G8 := Lib.hid g8
    clear hgg hnum g8 hcl
    subst hp hl
    obtain ⟨hA1, hA2⟩ : b8 = b9 ∧ o8 = o9 := by simp only [Option.some.injEq, Addr.mk.injEq, and_true] at hA; exact ⟨hA.1.symm, hA.2.symm⟩
    subst hA1 hA2
    clear hA
    first
    | (go_region_held3 (fun w' => w'.cell? ⟨w5.heap.size, 0, none⟩ = some (.bool true) ∧ w'.cell? ⟨w5.heap.size, 1, none⟩ = some (.slice (some ⟨b8, o8, none⟩) 1 c5) ∧ w'.cell? ⟨w5.heap.size, 2, none⟩ = some (.slice B5 j5 e5)) (first | assumption | exact g1 | exact three_keep (by assumption) (by assumption : Only _ _ _)) (first
      | (have hq := HN20; clear hq; go_at_call 33; refine (cmpQ_ _ _ (F) (-2147483648) 0 0 w20 (HG.out.frame HO20.out) HN20.out (by have := HB.out; have := HFC.out; omega) (by decide) (by decide) (by decide)).mono ?_; rintro e w21 ⟨rfl, ho⟩; have HO21 := Lib.hid (HO20.out.trans ho); rw [HT1.out])
      | (go_at_call 24; refine (numQ_ (-2147483648) w9.drew (by decide) (by decide)).mono ?_; rintro e w20 ⟨x20, rfl, hr, ho⟩; have HN20 := Lib.hid hr; have HO20 := Lib.hid (Only.trans ((Only.refl [] w9).drew) ho : Only [] w9 w20); clear hr)))
    | fail "region 5"
    go_wp2_with fail
    have g2 := three_at g1 HO21.out
    first
    | (go_region_held3 (fun w' => w'.cell? ⟨w5.heap.size, 0, none⟩ = some (.bool true) ∧ w'.cell? ⟨w5.heap.size, 1, none⟩ = some (.slice (some ⟨b8, o8, none⟩) 1 c5) ∧ w'.cell? ⟨w5.heap.size, 2, none⟩ = some (.slice B5 j5 e5)) (first | assumption | exact g2 | exact three_keep (by assumption) (by assumption : Only _ _ _)) (first
      | (have hq := HN22; clear hq; go_at_call 33; refine (cmpQ_ _ _ (F) (2147483647) 0 0 w22 (HG.out.frame (HO21.out.trans HO22.out)) HN22.out (by have := HB.out; have := HFC.out; omega) (by decide) (by decide) (by decide)).mono ?_; rintro e w23 ⟨rfl, ho⟩; have HO23 := Lib.hid (HO22.out.trans ho); rw [HT2.out])
      | (go_at_call 24; refine (numQ_ (2147483647) w21.drew (by decide) (by decide)).mono ?_; rintro e w22 ⟨x22, rfl, hr, ho⟩; have HN22 := Lib.hid hr; have HO22 := Lib.hid (Only.trans ((Only.refl [] w21).drew) ho : Only [] w21 w22); clear hr)))
    | fail "region 7"
    obtain ⟨k0, k1, k2⟩ := three_at g2 HO23.out
    have k3 := cell_keep (cell_keep G8.out HO21.out) HO23.out
    go_wp2_with fail
    go_ret2
    exact ⟨by rw [HK.out.1, HK.out.2]; first | done | rfl, (HOW.out.trans HO21.out).trans HO23.out⟩
set_option maxRecDepth 8000 in
set_option maxHeartbeats 8000000 in
theorem round_d (x : Value) (z F : Int) (k : Nat) (w : World) (hx : RatAt w x z k) (hF : halfUp z (2 ^ k) = F) (hz : nd z.natAbs ≤ 4000) (hk : k ≤ 2000) (ht : signI ((F * 2 ^ k + -z * 2 ^ 0) * 2 ^ 1 + -1 * 2 ^ (0 + k)) = 0) (hF0 : F ≠ 0) (hF2 : F.natAbs % 2 = 1) :
    Calls Tryz.prog 18 #[x] w fun e w' => e = .returned (.tuple #[.int .i64 (keptI (F - 1)), .bool (keptI (F - 1) != (F - 1))]) ∧ Only [] w w' := by
  obtain ⟨p1, A1, l1, c1, B1, j1, e1, rfl⟩ := hx.open
  have HX := Lib.hid hx
  have hFb : nd F.natAbs ≤ 8000 := by rw [← hF]; exact bound_f z k hz hk
  have HB := Lib.hid (show nd z.natAbs ≤ 4000 ∧ nd F.natAbs ≤ 8000 ∧ k ≤ 2000 from ⟨hz, hFb, hk⟩)
  have HFE := Lib.hid hF
  have HT := Lib.hid ht
  have HB0 := Lib.hid (show (w.alloc (.cells #[.bool p1, .slice A1 l1 c1, .slice B1 j1 e1] 51)).heap[w.heap.size]? = some (.cells #[.bool p1, .slice A1 l1 c1, .slice B1 j1 e1] 51 (0, 0)) from block_new _ _)
  have HS := Lib.hid (Nat.le_trans (bound_a z k hz hk) (show 8000 ≤ 400000 by decide))
  have HS8 := Lib.hid (Nat.le_trans (bound_b z F k hz hFb hk) (show 20000 ≤ 200000 by decide))
  have HFC := Lib.hid (bound_c F hFb)
  clear hx hF hz hFb hk ht
  have HF0 := Lib.hid hF0
  clear hF0
  have HF2 := Lib.hid hF2
  clear hF2
  go_enter Tryz.func18, Tryz.ntmps18
  go_wp2_with first
    | (have hq := HN1; clear hq; go_at_call 24; refine (numQ_ 2 _ (by decide) (by decide)).mono ?_; rintro e w2 ⟨x2, rfl, hr, ho⟩; have HN2 := Lib.hid hr; have HO2 := Lib.hid ho; clear hr ho)
    | (go_at_call 24; refine (numQ_ 1 _ (by decide) (by decide)).mono ?_; rintro e w1 ⟨x1, rfl, hr, ho⟩; have HN1 := Lib.hid hr; have HO1 := Lib.hid ho; clear hr ho)
    | (go_at_call 23; refine (quoQ_ x1 x2 1 0 1 w2 (HN1.out.frame HO2.out) HN2.out (by decide) (by decide) (by decide)).mono ?_; rintro e w3 ⟨x3, rfl, hr, ho⟩; obtain ⟨p3, A3, l3, c3, B3, j3, e3, rfl⟩ := hr.open; have HR3 := Lib.hid hr; have HO3 := Lib.hid ((HO1.out.trans HO2.out).trans ho); have hb0 := HO3.out.at HB0.out (by simp); have HB3 := Lib.hid (block_alloc (o' := .cells #[.bool p3, .slice A3 l3 c3, .slice B3 j3 e3] 51) hb0); have HH3 := Lib.hid (block_new w3 (.cells #[.bool p3, .slice A3 l3 c3, .slice B3 j3 e3] 51)); have q0 := cell_of HB3.out 0 rfl; have q1 := cell_of HB3.out 1 rfl; have q2 := cell_of HB3.out 2 rfl; clear hr ho hb0)
    | (go_at_call 32; refine (addQ_ _ _ z 1 k 1 _ (((HX.out.frame ((Only.refl [] w).alloc _)).frame HO3.out).frame ((Only.refl [] w3).alloc _)) (HR3.out.frame ((Only.refl [] w3).alloc _)) (by have := HB.out; omega) (by decide) (by have := HB.out; omega) (by decide)).mono ?_; rintro e w4 ⟨x4, rfl, hr, ho⟩; have HR4 := Lib.hid hr; have HO4 := Lib.hid ho; clear hr ho)
    | (go_at_call 31; refine (floorQ_ x4 _ (k + 1) w4 HR4.out HS.out).mono ?_; rintro e w5 ⟨x5, rfl, hr, ho⟩; rw [half_floor, HFE.out] at hr; obtain ⟨p5, A5, l5, c5, B5, j5, e5, rfl⟩ := hr.open; have HR5 := Lib.hid hr; have HO5 := Lib.hid (HO4.out.trans ho); clear hr ho)
  have b1 : (w5.alloc (.cells #[.bool p5, .slice A5 l5 c5, .slice B5 j5 e5] 51)).heap[w.heap.size]? = some (.cells #[.bool p1, .slice A1 l1 c1, .slice B1 j1 e1] 51 (0, 0)) := block_alloc (HO5.out.at HB3.out (by simp))
  have b4 : (w5.alloc (.cells #[.bool p5, .slice A5 l5 c5, .slice B5 j5 e5] 51)).heap[w3.heap.size]? = some (.cells #[.bool p3, .slice A3 l3 c3, .slice B3 j3 e3] 51 (0, 0)) := block_alloc (HO5.out.at HH3.out (by simp))
  have b5 : (w5.alloc (.cells #[.bool p5, .slice A5 l5 c5, .slice B5 j5 e5] 51)).heap[w5.heap.size]? = some (.cells #[.bool p5, .slice A5 l5 c5, .slice B5 j5 e5] 51 (0, 0)) := block_new _ _
  have HX7 := Lib.hid ((((HX.out.frame ((Only.refl [] w).alloc _)).frame HO3.out).frame ((Only.refl [] w3).alloc _)).frame HO5.out |>.frame ((Only.refl [] w5).alloc (.cells #[.bool p5, .slice A5 l5 c5, .slice B5 j5 e5] 51)))
  have HH7 := Lib.hid (((HR3.out.frame ((Only.refl [] w3).alloc _)).frame HO5.out).frame ((Only.refl [] w5).alloc (.cells #[.bool p5, .slice A5 l5 c5, .slice B5 j5 e5] 51)))
  have HF7 := Lib.hid (HR5.out.frame ((Only.refl [] w5).alloc (.cells #[.bool p5, .slice A5 l5 c5, .slice B5 j5 e5] 51)))
  have HO7 := Lib.hid ((((((Only.refl [] w).alloc _).trans HO3.out).alloc _).trans HO5.out).alloc (.cells #[.bool p5, .slice A5 l5 c5, .slice B5 j5 e5] 51))
  have HSZ := Lib.hid (show w.heap.size ≤ w5.heap.size from ((((Only.refl [] w).alloc _).trans HO3.out).alloc _ |>.trans HO5.out).size)
  generalize w5.alloc (.cells #[.bool p5, .slice A5 l5 c5, .slice B5 j5 e5] 51) = w7 at *
  obtain ⟨lp, ln, lm, b9, o9, dv, rfl, g9, hdv⟩ : ∃ (lp : (0 : Int) < (l5 : Int)) (ln : decide (0 < l5) = true) (lm : 0 < l5) (b9 o9 : Nat) (dv : Int), A5 = some ⟨b9, o9, none⟩ ∧ w7.cell? ⟨b9, o9, none⟩ = some (.int .u64 dv) ∧ (dv.tmod 2 == 1) = true := by
    obtain ⟨_, h1, _⟩ := HF7.out.whole
    obtain ⟨hl, b9, o9, hA, hc⟩ := h1.digit (by have := HF0.out; omega)
    have h2 := nd_pos (x := F.natAbs) (by have := HF0.out; omega)
    refine ⟨by omega, decide_eq_true (by omega), by omega, b9, o9, _, hA, hc, ?_⟩
    have e1 : dg F.natAbs 0 = F.natAbs / 1 % 4294967296 := rfl
    have h3 := HF2.out
    rw [Int.tmod_eq_emod_of_nonneg (by omega)]
    exact beq_iff_eq.2 (by omega)
  have g0 : w7.cell? ⟨b9, o9, none⟩ = some (.int .u64 dv) ∧ w7.cell? ⟨w.heap.size, 0, none⟩ = some (.bool p1) ∧ w7.cell? ⟨w.heap.size, 1, none⟩ = some (.slice A1 l1 c1) ∧ w7.cell? ⟨w.heap.size, 2, none⟩ = some (.slice B1 j1 e1) ∧ w7.cell? ⟨w3.heap.size, 0, none⟩ = some (.bool p3) ∧ w7.cell? ⟨w3.heap.size, 1, none⟩ = some (.slice A3 l3 c3) ∧ w7.cell? ⟨w3.heap.size, 2, none⟩ = some (.slice B3 j3 e3) ∧ w7.cell? ⟨w5.heap.size, 0, none⟩ = some (.bool p5) ∧ w7.cell? ⟨w5.heap.size, 1, none⟩ = some (.slice (some ⟨b9, o9, none⟩) l5 c5) ∧ w7.cell? ⟨w5.heap.size, 2, none⟩ = some (.slice B5 j5 e5) := ⟨g9, cell_of b1 0 rfl, cell_of b1 1 rfl, cell_of b1 2 rfl, cell_of b4 0 rfl, cell_of b4 1 rfl, cell_of b4 2 rfl, cell_of b5 0 rfl, cell_of b5 1 rfl, cell_of b5 2 rfl⟩
  have Hb5 := Lib.hid b5
  clear b1 b4 b5 q0 q1 q2 g9
  first
  | (go_region_held3 (fun w' => w'.cell? ⟨b9, o9, none⟩ = some (.int .u64 dv) ∧ w'.cell? ⟨w.heap.size, 0, none⟩ = some (.bool p1) ∧ w'.cell? ⟨w.heap.size, 1, none⟩ = some (.slice A1 l1 c1) ∧ w'.cell? ⟨w.heap.size, 2, none⟩ = some (.slice B1 j1 e1) ∧ w'.cell? ⟨w3.heap.size, 0, none⟩ = some (.bool p3) ∧ w'.cell? ⟨w3.heap.size, 1, none⟩ = some (.slice A3 l3 c3) ∧ w'.cell? ⟨w3.heap.size, 2, none⟩ = some (.slice B3 j3 e3) ∧ w'.cell? ⟨w5.heap.size, 0, none⟩ = some (.bool p5) ∧ w'.cell? ⟨w5.heap.size, 1, none⟩ = some (.slice (some ⟨b9, o9, none⟩) l5 c5) ∧ w'.cell? ⟨w5.heap.size, 2, none⟩ = some (.slice B5 j5 e5)) (first | assumption | exact g0 | exact ten_keep (by assumption) (by assumption : Only _ _ _)) (first
    | (have hq := HR8; clear hq; go_at_call 33; refine (cmpQ_ _ _ (F * 2 ^ k + -z * 2 ^ 0) 1 (0 + k) 1 w8 HR8.out (HH7.out.frame HO8.out) HS8.out (by decide) (by have := HB.out; omega) (by decide)).mono ?_; rintro e w9 ⟨rfl, ho⟩; have HO9 := Lib.hid (HO8.out.trans ho); rw [HT.out])
    | (go_at_call 34; refine (subQ_ _ _ F z 0 k w7.drew (HF7.out.frame (Only.refl [] w7).drew) (HX7.out.frame (Only.refl [] w7).drew) (by have := HB.out; omega) (by have := HB.out; omega) (by decide) (by have := HB.out; omega)).mono ?_; rintro e w8 ⟨x8, rfl, hr, ho⟩; have HO8 := Lib.hid (Only.trans ((Only.refl [] w7).drew) ho : Only [] w7 w8); obtain ⟨p8, A8, l8, c8, B8, j8, e8, rfl⟩ := hr.open; have HR8 := Lib.hid hr; clear hr)))
  | fail "region 3"
  all_goals (go_wp2_with fail)
  have hg9 := HO9.out.at Hb5.out (by simp)
  have Hb9 := Lib.hid hg9
  have u0 := cell_of hg9 0 rfl
  have u1 := cell_of hg9 1 rfl
  have u2 := cell_of hg9 2 rfl
  have HF9 := Lib.hid (HF7.out.frame HO9.out)
  clear hg9 g0
  first
  | (go_region_with (first
    | (have hq := HN11; clear hq; go_at_call 34; refine (subQ_ _ _ F 1 0 0 w11 (HF9.out.frame HO11.out) HN11.out (by have := HB.out; omega) (by decide) (by decide) (by decide)).mono ?_; rintro e w12 ⟨x12, rfl, hr, ho⟩; rw [less_one] at hr; obtain ⟨p12, A12, l12, c12, B12, j12, e12, rfl⟩ := hr.open; have HR12 := Lib.hid hr; have HO12 := Lib.hid (HO11.out.trans ho); have hrb := HO12.out.at Hb9.out (by simp); have r0 := cell_of hrb 0 rfl; have r1 := cell_of hrb 1 rfl; have r2 := cell_of hrb 2 rfl; have f0 := free_of hrb 0; have f1 := free_of hrb 1; have f2 := free_of hrb 2; have HRB := Lib.hid hrb; clear hr hrb ho)
    | (go_at_call 24; refine (numQ_ 1 w9.drew (by decide) (by decide)).mono ?_; rintro e w11 ⟨x11, rfl, hr, ho⟩; have HN11 := Lib.hid hr; have HO11 := Lib.hid (Only.trans ((Only.refl [] w9).drew) ho : Only [] w9 w11); have hu := HO11.out.at Hb9.out (by simp); have u0' := cell_of hu 0 rfl; have u1' := cell_of hu 1 rfl; have u2' := cell_of hu 2 rfl; clear hu hr ho)))
  | fail "region 4"
  all_goals (go_wp2_with fail)
  all_goals
    have HG := Lib.hid (HR12.out.past HRB.out (three_only w12 w5.heap.size (.bool p12) (.slice A12 l12 c12) (.slice B12 j12 e12)))
    have HOW := Lib.hid (only_three ((HO7.out.trans HO9.out).trans HO12.out) HSZ.out (.bool p12) (.slice A12 l12 c12) (.slice B12 j12 e12))
    have g1 : (((w12.setCell ⟨w5.heap.size, 0, none⟩ (.bool p12)).setCell ⟨w5.heap.size, 1, none⟩ (.slice A12 l12 c12)).setCell ⟨w5.heap.size, 2, none⟩ (.slice B12 j12 e12)).cell? ⟨w5.heap.size, 0, none⟩ = some (.bool p12) ∧ (((w12.setCell ⟨w5.heap.size, 0, none⟩ (.bool p12)).setCell ⟨w5.heap.size, 1, none⟩ (.slice A12 l12 c12)).setCell ⟨w5.heap.size, 2, none⟩ (.slice B12 j12 e12)).cell? ⟨w5.heap.size, 1, none⟩ = some (.slice A12 l12 c12) ∧ (((w12.setCell ⟨w5.heap.size, 0, none⟩ (.bool p12)).setCell ⟨w5.heap.size, 1, none⟩ (.slice A12 l12 c12)).setCell ⟨w5.heap.size, 2, none⟩ (.slice B12 j12 e12)).cell? ⟨w5.heap.size, 2, none⟩ = some (.slice B12 j12 e12) := by simp [go_sem, r0, r1, r2, f0, f1, f2]
    generalize ((w12.setCell ⟨w5.heap.size, 0, none⟩ (.bool p12)).setCell ⟨w5.heap.size, 1, none⟩ (.slice A12 l12 c12)).setCell ⟨w5.heap.size, 2, none⟩ (.slice B12 j12 e12) = wd at *
    clear r0 r1 r2 f0 f1 f2 u0 u1 u2
    have hcl : (F - 1) < -2147483648 ∨ 2147483647 < (F - 1) ∨ (F - 1) = 0 ∨ (0 < (F - 1) ∧ (F - 1) ≤ 2147483647) ∨ ((F - 1) < 0 ∧ -2147483648 ≤ (F - 1)) := by omega
    rcases hcl with hcl | hcl | hcl | hcl | hcl
    · obtain ⟨T1, hT1⟩ : ∃ T1, signI ((F - 1) * 2 ^ 0 + -(-2147483648) * 2 ^ 0) = T1 := ⟨_, rfl⟩
      have d1 : decide (T1 < 0) = true := by rw [← hT1]; exact sign_low hcl
      have HT1 := Lib.hid hT1
      clear hT1
      have HK := Lib.hid (show keptI (F - 1) = -2147483648 ∧ ((-2147483648 : Int) != (F - 1)) = true by unfold keptI; rw [if_pos hcl]; exact ⟨by omega, by simp; omega⟩)
      clear hcl
      first
      | (go_region_held3 (fun w' => w'.cell? ⟨w5.heap.size, 0, none⟩ = some (.bool p12) ∧ w'.cell? ⟨w5.heap.size, 1, none⟩ = some (.slice A12 l12 c12) ∧ w'.cell? ⟨w5.heap.size, 2, none⟩ = some (.slice B12 j12 e12)) (first | assumption | exact g1 | exact three_keep (by assumption) (by assumption : Only _ _ _)) (first
        | (have hq := HN20; clear hq; go_at_call 33; refine (cmpQ_ _ _ ((F - 1)) (-2147483648) 0 0 w20 (HG.out.frame HO20.out) HN20.out (by have := HB.out; have := HFC.out; omega) (by decide) (by decide) (by decide)).mono ?_; rintro e w21 ⟨rfl, ho⟩; have HO21 := Lib.hid (HO20.out.trans ho); rw [HT1.out])
        | (go_at_call 24; refine (numQ_ (-2147483648) wd.drew (by decide) (by decide)).mono ?_; rintro e w20 ⟨x20, rfl, hr, ho⟩; have HN20 := Lib.hid hr; have HO20 := Lib.hid (Only.trans ((Only.refl [] wd).drew) ho : Only [] wd w20); clear hr)))
      | fail "region 5"
      go_wp2_with fail
      go_ret2
      exact ⟨by rw [HK.out.1, HK.out.2]; first | done | rfl, HOW.out.trans HO21.out⟩
    · obtain ⟨T1, hT1⟩ : ∃ T1, signI ((F - 1) * 2 ^ 0 + -(-2147483648) * 2 ^ 0) = T1 := ⟨_, rfl⟩
      have d1 : decide (T1 < 0) = false := by rw [← hT1]; exact sign_low_no (by omega)
      have HT1 := Lib.hid hT1
      clear hT1
      obtain ⟨T2, hT2⟩ : ∃ T2, signI ((F - 1) * 2 ^ 0 + -2147483647 * 2 ^ 0) = T2 := ⟨_, rfl⟩
      have d2 : decide (0 < T2) = true := by rw [← hT2]; exact sign_high hcl
      have HT2 := Lib.hid hT2
      clear hT2
      have HK := Lib.hid (show keptI (F - 1) = 2147483647 ∧ ((2147483647 : Int) != (F - 1)) = true by unfold keptI; rw [if_neg (by omega), if_pos hcl]; exact ⟨by omega, by simp; omega⟩)
      clear hcl
      first
      | (go_region_held3 (fun w' => w'.cell? ⟨w5.heap.size, 0, none⟩ = some (.bool p12) ∧ w'.cell? ⟨w5.heap.size, 1, none⟩ = some (.slice A12 l12 c12) ∧ w'.cell? ⟨w5.heap.size, 2, none⟩ = some (.slice B12 j12 e12)) (first | assumption | exact g1 | exact three_keep (by assumption) (by assumption : Only _ _ _)) (first
        | (have hq := HN20; clear hq; go_at_call 33; refine (cmpQ_ _ _ ((F - 1)) (-2147483648) 0 0 w20 (HG.out.frame HO20.out) HN20.out (by have := HB.out; have := HFC.out; omega) (by decide) (by decide) (by decide)).mono ?_; rintro e w21 ⟨rfl, ho⟩; have HO21 := Lib.hid (HO20.out.trans ho); rw [HT1.out])
        | (go_at_call 24; refine (numQ_ (-2147483648) wd.drew (by decide) (by decide)).mono ?_; rintro e w20 ⟨x20, rfl, hr, ho⟩; have HN20 := Lib.hid hr; have HO20 := Lib.hid (Only.trans ((Only.refl [] wd).drew) ho : Only [] wd w20); clear hr)))
      | fail "region 5"
      go_wp2_with fail
      have g2 := three_at g1 HO21.out
      first
      | (go_region_held3 (fun w' => w'.cell? ⟨w5.heap.size, 0, none⟩ = some (.bool p12) ∧ w'.cell? ⟨w5.heap.size, 1, none⟩ = some (.slice A12 l12 c12) ∧ w'.cell? ⟨w5.heap.size, 2, none⟩ = some (.slice B12 j12 e12)) (first | assumption | exact g2 | exact three_keep (by assumption) (by assumption : Only _ _ _)) (first
        | (have hq := HN22; clear hq; go_at_call 33; refine (cmpQ_ _ _ ((F - 1)) (2147483647) 0 0 w22 (HG.out.frame (HO21.out.trans HO22.out)) HN22.out (by have := HB.out; have := HFC.out; omega) (by decide) (by decide) (by decide)).mono ?_; rintro e w23 ⟨rfl, ho⟩; have HO23 := Lib.hid (HO22.out.trans ho); rw [HT2.out])
        | (go_at_call 24; refine (numQ_ (2147483647) w21.drew (by decide) (by decide)).mono ?_; rintro e w22 ⟨x22, rfl, hr, ho⟩; have HN22 := Lib.hid hr; have HO22 := Lib.hid (Only.trans ((Only.refl [] w21).drew) ho : Only [] w21 w22); clear hr)))
      | fail "region 7"
      go_wp2_with fail
      go_ret2
      exact ⟨by rw [HK.out.1, HK.out.2]; first | done | rfl, (HOW.out.trans HO21.out).trans HO23.out⟩
    · obtain ⟨T1, hT1⟩ : ∃ T1, signI ((F - 1) * 2 ^ 0 + -(-2147483648) * 2 ^ 0) = T1 := ⟨_, rfl⟩
      have d1 : decide (T1 < 0) = false := by rw [← hT1]; exact sign_low_no (by omega)
      have HT1 := Lib.hid hT1
      clear hT1
      obtain ⟨T2, hT2⟩ : ∃ T2, signI ((F - 1) * 2 ^ 0 + -2147483647 * 2 ^ 0) = T2 := ⟨_, rfl⟩
      have d2 : decide (0 < T2) = false := by rw [← hT2]; exact sign_high_no (by omega)
      have HT2 := Lib.hid hT2
      clear hT2
      have HK := Lib.hid (show keptI (F - 1) = 0 ∧ ((0 : Int) != (F - 1)) = false by unfold keptI; rw [if_neg (by omega), if_neg (by omega)]; exact ⟨by omega, by simp; omega⟩)
      have hl : l12 = 0 := by
        obtain ⟨_, hnum, _⟩ := HG.out.whole
        obtain ⟨A', c', hv, _⟩ := hnum
        cases hv
        rw [hcl]; rfl
      subst hl
      clear hcl
      first
      | (go_region_held3 (fun w' => w'.cell? ⟨w5.heap.size, 0, none⟩ = some (.bool p12) ∧ w'.cell? ⟨w5.heap.size, 1, none⟩ = some (.slice A12 0 c12) ∧ w'.cell? ⟨w5.heap.size, 2, none⟩ = some (.slice B12 j12 e12)) (first | assumption | exact g1 | exact three_keep (by assumption) (by assumption : Only _ _ _)) (first
        | (have hq := HN20; clear hq; go_at_call 33; refine (cmpQ_ _ _ ((F - 1)) (-2147483648) 0 0 w20 (HG.out.frame HO20.out) HN20.out (by have := HB.out; have := HFC.out; omega) (by decide) (by decide) (by decide)).mono ?_; rintro e w21 ⟨rfl, ho⟩; have HO21 := Lib.hid (HO20.out.trans ho); rw [HT1.out])
        | (go_at_call 24; refine (numQ_ (-2147483648) wd.drew (by decide) (by decide)).mono ?_; rintro e w20 ⟨x20, rfl, hr, ho⟩; have HN20 := Lib.hid hr; have HO20 := Lib.hid (Only.trans ((Only.refl [] wd).drew) ho : Only [] wd w20); clear hr)))
      | fail "region 5"
      go_wp2_with fail
      have g2 := three_at g1 HO21.out
      first
      | (go_region_held3 (fun w' => w'.cell? ⟨w5.heap.size, 0, none⟩ = some (.bool p12) ∧ w'.cell? ⟨w5.heap.size, 1, none⟩ = some (.slice A12 0 c12) ∧ w'.cell? ⟨w5.heap.size, 2, none⟩ = some (.slice B12 j12 e12)) (first | assumption | exact g2 | exact three_keep (by assumption) (by assumption : Only _ _ _)) (first
        | (have hq := HN22; clear hq; go_at_call 33; refine (cmpQ_ _ _ ((F - 1)) (2147483647) 0 0 w22 (HG.out.frame (HO21.out.trans HO22.out)) HN22.out (by have := HB.out; have := HFC.out; omega) (by decide) (by decide) (by decide)).mono ?_; rintro e w23 ⟨rfl, ho⟩; have HO23 := Lib.hid (HO22.out.trans ho); rw [HT2.out])
        | (go_at_call 24; refine (numQ_ (2147483647) w21.drew (by decide) (by decide)).mono ?_; rintro e w22 ⟨x22, rfl, hr, ho⟩; have HN22 := Lib.hid hr; have HO22 := Lib.hid (Only.trans ((Only.refl [] w21).drew) ho : Only [] w21 w22); clear hr)))
      | fail "region 7"
      obtain ⟨k0, k1, k2⟩ := three_at g2 HO23.out
      go_wp2_with fail
      go_ret2
      exact ⟨by rw [HK.out.1, HK.out.2]; first | done | rfl, (HOW.out.trans HO21.out).trans HO23.out⟩
    · obtain ⟨T1, hT1⟩ : ∃ T1, signI ((F - 1) * 2 ^ 0 + -(-2147483648) * 2 ^ 0) = T1 := ⟨_, rfl⟩
      have d1 : decide (T1 < 0) = false := by rw [← hT1]; exact sign_low_no (by omega)
      have HT1 := Lib.hid hT1
      clear hT1
      obtain ⟨T2, hT2⟩ : ∃ T2, signI ((F - 1) * 2 ^ 0 + -2147483647 * 2 ^ 0) = T2 := ⟨_, rfl⟩
      have d2 : decide (0 < T2) = false := by rw [← hT2]; exact sign_high_no (by omega)
      have HT2 := Lib.hid hT2
      clear hT2
      obtain ⟨gg, hgg⟩ : ∃ gg : Int, gg = ((F - 1)).natAbs := ⟨_, rfl⟩
      have HK := Lib.hid (show keptI (F - 1) = gg ∧ (gg != (F - 1)) = false by unfold keptI; rw [if_neg (by omega), if_neg (by omega)]; exact ⟨by omega, by simp; omega⟩)
      have W1 : IntKind.i64.wrap gg = gg := IntWalk.i64_in _ (by omega)
      have W2 : IntKind.i64.wrap (-gg) = -gg := IntWalk.i64_in _ (by omega)
      obtain ⟨hp, hnum, _⟩ := HG.out.whole
      obtain ⟨hl, b8, o8, hA, g8⟩ := hnum.digit (by omega)
      rw [show nd ((F - 1)).natAbs = 1 from nd_small (by omega) (by omega)] at hl
      rw [show ((dg ((F - 1)).natAbs 0 : Nat) : Int) = gg by rw [dg_one _ (by omega), hgg]] at g8
      rw [decide_eq_false (by omega)] at hp
      have G8 := Lib.hid g8
      clear hgg hnum g8 hcl
      subst hp hl
      obtain rfl := hA
      first
      | (go_region_held3 (fun w' => w'.cell? ⟨w5.heap.size, 0, none⟩ = some (.bool false) ∧ w'.cell? ⟨w5.heap.size, 1, none⟩ = some (.slice (some ⟨b8, o8, none⟩) 1 c12) ∧ w'.cell? ⟨w5.heap.size, 2, none⟩ = some (.slice B12 j12 e12)) (first | assumption | exact g1 | exact three_keep (by assumption) (by assumption : Only _ _ _)) (first
        | (have hq := HN20; clear hq; go_at_call 33; refine (cmpQ_ _ _ ((F - 1)) (-2147483648) 0 0 w20 (HG.out.frame HO20.out) HN20.out (by have := HB.out; have := HFC.out; omega) (by decide) (by decide) (by decide)).mono ?_; rintro e w21 ⟨rfl, ho⟩; have HO21 := Lib.hid (HO20.out.trans ho); rw [HT1.out])
        | (go_at_call 24; refine (numQ_ (-2147483648) wd.drew (by decide) (by decide)).mono ?_; rintro e w20 ⟨x20, rfl, hr, ho⟩; have HN20 := Lib.hid hr; have HO20 := Lib.hid (Only.trans ((Only.refl [] wd).drew) ho : Only [] wd w20); clear hr)))
      | fail "region 5"
      go_wp2_with fail
      have g2 := three_at g1 HO21.out
      first
      | (go_region_held3 (fun w' => w'.cell? ⟨w5.heap.size, 0, none⟩ = some (.bool false) ∧ w'.cell? ⟨w5.heap.size, 1, none⟩ = some (.slice (some ⟨b8, o8, none⟩) 1 c12) ∧ w'.cell? ⟨w5.heap.size, 2, none⟩ = some (.slice B12 j12 e12)) (first | assumption | exact g2 | exact three_keep (by assumption) (by assumption : Only _ _ _)) (first
        | (have hq := HN22; clear hq; go_at_call 33; refine (cmpQ_ _ _ ((F - 1)) (2147483647) 0 0 w22 (HG.out.frame (HO21.out.trans HO22.out)) HN22.out (by have := HB.out; have := HFC.out; omega) (by decide) (by decide) (by decide)).mono ?_; rintro e w23 ⟨rfl, ho⟩; have HO23 := Lib.hid (HO22.out.trans ho); rw [HT2.out])
        | (go_at_call 24; refine (numQ_ (2147483647) w21.drew (by decide) (by decide)).mono ?_; rintro e w22 ⟨x22, rfl, hr, ho⟩; have HN22 := Lib.hid hr; have HO22 := Lib.hid (Only.trans ((Only.refl [] w21).drew) ho : Only [] w21 w22); clear hr)))
      | fail "region 7"
      obtain ⟨k0, k1, k2⟩ := three_at g2 HO23.out
      have k3 := cell_keep (cell_keep G8.out HO21.out) HO23.out
      go_wp2_with fail
      go_ret2
      exact ⟨by rw [HK.out.1, HK.out.2]; first | done | rfl, (HOW.out.trans HO21.out).trans HO23.out⟩
    · obtain ⟨T1, hT1⟩ : ∃ T1, signI ((F - 1) * 2 ^ 0 + -(-2147483648) * 2 ^ 0) = T1 := ⟨_, rfl⟩
      have d1 : decide (T1 < 0) = false := by rw [← hT1]; exact sign_low_no (by omega)
      have HT1 := Lib.hid hT1
      clear hT1
      obtain ⟨T2, hT2⟩ : ∃ T2, signI ((F - 1) * 2 ^ 0 + -2147483647 * 2 ^ 0) = T2 := ⟨_, rfl⟩
      have d2 : decide (0 < T2) = false := by rw [← hT2]; exact sign_high_no (by omega)
      have HT2 := Lib.hid hT2
      clear hT2
      obtain ⟨gg, hgg⟩ : ∃ gg : Int, gg = ((F - 1)).natAbs := ⟨_, rfl⟩
      have HK := Lib.hid (show keptI (F - 1) = -gg ∧ (-gg != (F - 1)) = false by unfold keptI; rw [if_neg (by omega), if_neg (by omega)]; exact ⟨by omega, by simp; omega⟩)
      have W1 : IntKind.i64.wrap gg = gg := IntWalk.i64_in _ (by omega)
      have W2 : IntKind.i64.wrap (-gg) = -gg := IntWalk.i64_in _ (by omega)
      obtain ⟨hp, hnum, _⟩ := HG.out.whole
      obtain ⟨hl, b8, o8, hA, g8⟩ := hnum.digit (by omega)
      rw [show nd ((F - 1)).natAbs = 1 from nd_small (by omega) (by omega)] at hl
      rw [show ((dg ((F - 1)).natAbs 0 : Nat) : Int) = gg by rw [dg_one _ (by omega), hgg]] at g8
      rw [decide_eq_true (by omega)] at hp
      have G8 := Lib.hid g8
      clear hgg hnum g8 hcl
      subst hp hl
      obtain rfl := hA
      first
      | (go_region_held3 (fun w' => w'.cell? ⟨w5.heap.size, 0, none⟩ = some (.bool true) ∧ w'.cell? ⟨w5.heap.size, 1, none⟩ = some (.slice (some ⟨b8, o8, none⟩) 1 c12) ∧ w'.cell? ⟨w5.heap.size, 2, none⟩ = some (.slice B12 j12 e12)) (first | assumption | exact g1 | exact three_keep (by assumption) (by assumption : Only _ _ _)) (first
        | (have hq := HN20; clear hq; go_at_call 33; refine (cmpQ_ _ _ ((F - 1)) (-2147483648) 0 0 w20 (HG.out.frame HO20.out) HN20.out (by have := HB.out; have := HFC.out; omega) (by decide) (by decide) (by decide)).mono ?_; rintro e w21 ⟨rfl, ho⟩; have HO21 := Lib.hid (HO20.out.trans ho); rw [HT1.out])
        | (go_at_call 24; refine (numQ_ (-2147483648) wd.drew (by decide) (by decide)).mono ?_; rintro e w20 ⟨x20, rfl, hr, ho⟩; have HN20 := Lib.hid hr; have HO20 := Lib.hid (Only.trans ((Only.refl [] wd).drew) ho : Only [] wd w20); clear hr)))
      | fail "region 5"
      go_wp2_with fail
      have g2 := three_at g1 HO21.out
      first
      | (go_region_held3 (fun w' => w'.cell? ⟨w5.heap.size, 0, none⟩ = some (.bool true) ∧ w'.cell? ⟨w5.heap.size, 1, none⟩ = some (.slice (some ⟨b8, o8, none⟩) 1 c12) ∧ w'.cell? ⟨w5.heap.size, 2, none⟩ = some (.slice B12 j12 e12)) (first | assumption | exact g2 | exact three_keep (by assumption) (by assumption : Only _ _ _)) (first
        | (have hq := HN22; clear hq; go_at_call 33; refine (cmpQ_ _ _ ((F - 1)) (2147483647) 0 0 w22 (HG.out.frame (HO21.out.trans HO22.out)) HN22.out (by have := HB.out; have := HFC.out; omega) (by decide) (by decide) (by decide)).mono ?_; rintro e w23 ⟨rfl, ho⟩; have HO23 := Lib.hid (HO22.out.trans ho); rw [HT2.out])
        | (go_at_call 24; refine (numQ_ (2147483647) w21.drew (by decide) (by decide)).mono ?_; rintro e w22 ⟨x22, rfl, hr, ho⟩; have HN22 := Lib.hid hr; have HO22 := Lib.hid (Only.trans ((Only.refl [] w21).drew) ho : Only [] w21 w22); clear hr)))
      | fail "region 7"
      obtain ⟨k0, k1, k2⟩ := three_at g2 HO23.out
      have k3 := cell_keep (cell_keep G8.out HO21.out) HO23.out
      go_wp2_with fail
      go_ret2
      exact ⟨by rw [HK.out.1, HK.out.2]; first | done | rfl, (HOW.out.trans HO21.out).trans HO23.out⟩
theorem sign_zero (X : Int) : signI X = 0 ↔ X = 0 := by
  unfold signI
  by_cases h : X = 0
  · rw [if_pos h]; exact ⟨fun _ => h, fun _ => rfl⟩
  · rw [if_neg h]
    constructor
    · split <;> (intro h'; omega)
    · intro h'; exact absurd h' h
theorem tie_iff (z F : Int) (k : Nat) : signI ((F * 2 ^ k + -z * 2 ^ 0) * 2 ^ 1 + -1 * 2 ^ (0 + k)) = 0 ↔ (F * ((2 ^ k : Nat) : Int) + -z) * 2 = ((2 ^ k : Nat) : Int) := by
  rw [sign_zero, Nat.zero_add, Int.pow_zero, Int.mul_one, show (2 : Int) ^ 1 = 2 from rfl, show ((2 ^ k : Nat) : Int) = (2 : Int) ^ k by rw [Int.natCast_pow]; first | done | rfl]
  generalize (2 : Int) ^ k = p
  generalize F * p = q
  omega
theorem round_ (x : Value) (z : Int) (k : Nat) (w : World) (hx : RatAt w x z k) (hz : nd z.natAbs ≤ 4000) (hk : k ≤ 2000) :
    Calls Tryz.prog 18 #[x] w fun e w' => e = .returned (.tuple #[.int .i64 (keptI (roundI z (2 ^ k))), .bool (keptI (roundI z (2 ^ k)) != roundI z (2 ^ k))]) ∧ Only [] w w' := by
  have ht := tie_iff z (halfUp z (2 ^ k)) k
  by_cases h : (halfUp z (2 ^ k) * ((2 ^ k : Nat) : Int) + -z) * 2 = ((2 ^ k : Nat) : Int)
  · by_cases ho : (halfUp z (2 ^ k)).natAbs % 2 = 1
    · have e : roundI z (2 ^ k) = halfUp z (2 ^ k) - 1 := by unfold roundI; rw [if_pos ⟨h, ho⟩]
      rw [e]
      exact round_d x z _ k w hx rfl hz hk (ht.2 h) (by intro h0; rw [h0] at ho; exact absurd ho (by decide)) ho
    · have e : roundI z (2 ^ k) = halfUp z (2 ^ k) := by unfold roundI; rw [if_neg (fun h' => ho h'.2)]
      rw [e]
      by_cases h0 : halfUp z (2 ^ k) = 0
      · exact round_b x z _ k w hx rfl hz hk (ht.2 h) h0
      · exact round_c x z _ k w hx rfl hz hk (ht.2 h) h0 (by omega)
  · have e : roundI z (2 ^ k) = halfUp z (2 ^ k) := by unfold roundI; rw [if_neg (fun h' => h h'.1)]
    rw [e]
    exact round_a x z _ k w hx rfl hz hk _ rfl (beq_eq_false_iff_ne.2 (fun h' => h (ht.1 h')))
end Go.Proofs.YtpamkblhdgjlcaaGreatDoor
