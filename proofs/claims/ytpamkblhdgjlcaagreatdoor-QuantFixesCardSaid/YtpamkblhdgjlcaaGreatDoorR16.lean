/- The walks of the reference's Zero, NegQ, SubQ, Sign, CmpQ. -/
import Derived.Test.YtpamkblhdgjlcaaGreatDoorProg
import Derived.Test.YtpamkblhdgjlcaaGreatDoorBase
import Derived.Test.YtpamkblhdgjlcaaGreatDoorR15
import Derived.WalkKit
import Derived.WalkSpells
import Derived.WalkLawsBesides
import Derived.Handy
import Derived.Deep.QuietTactic
import Derived.Deep.OwnRows
import Derived.BigQuiet
import Derived.Deep.RegionHeld3
set_option linter.unusedSimpArgs false
set_option linter.unusedVariables false
namespace Go.Proofs.YtpamkblhdgjlcaaGreatDoor
open Go.RowKit

set_option maxRecDepth 8000 in
set_option maxHeartbeats 2000000 in
theorem zero_ (p : Bool) (A B : Option Addr) (l c j e : Nat) (w : World) :
    Calls Tryz.prog 87 #[.agg #[.bool p, .slice A l c, .slice B j e]] w fun e w' => e = .returned (.bool (decide (l = 0))) ∧ Only [] w w' := by
  go_enter Tryz.func87, Tryz.ntmps87
  go_wp2_with fail
  go_ret
  exact ⟨by congr 2; by_cases h : l = 0 <;> simp [h], (Only.refl [] w).alloc _⟩
theorem three_keep {w w' : World} {b : Nat} {v0 v1 v2 : Value} (h : w.cell? ⟨b, 0, none⟩ = some v0 ∧ w.cell? ⟨b, 1, none⟩ = some v1 ∧ w.cell? ⟨b, 2, none⟩ = some v2) (ho : Only [] w w') :
    w'.cell? ⟨b, 0, none⟩ = some v0 ∧ w'.cell? ⟨b, 1, none⟩ = some v1 ∧ w'.cell? ⟨b, 2, none⟩ = some v2 := ⟨cell_keep h.1 ho, cell_keep h.2.1 ho, cell_keep h.2.2 ho⟩
theorem three_off {w w' : World} {b g : Nat} {v0 v1 v2 : Value} (h : w.cell? ⟨b, 0, none⟩ = some v0 ∧ w.cell? ⟨b, 1, none⟩ = some v1 ∧ w.cell? ⟨b, 2, none⟩ = some v2) (ho : Only [g] w w') (hb : b ≠ g) :
    w'.cell? ⟨b, 0, none⟩ = some v0 ∧ w'.cell? ⟨b, 1, none⟩ = some v1 ∧ w'.cell? ⟨b, 2, none⟩ = some v2 := ⟨cell_off h.1 ho hb, cell_off h.2.1 ho hb, cell_off h.2.2 ho hb⟩
set_option maxRecDepth 8000 in
set_option maxHeartbeats 4000000 in
theorem negQ_neg (A1 B1 : Option Addr) (l1 c1 j1 e1 : Nat) (w : World) :
    Calls Tryz.prog 60 #[.agg #[.bool true, .slice A1 l1 c1, .slice B1 j1 e1]] w fun e w' => e = .returned (.agg #[.bool false, .slice A1 l1 c1, .slice B1 j1 e1]) ∧ ∃ w1 p A2 l2 c2 B2 j2 e2 b, Only [] w w1 ∧ w1.heap[b]? = some (.cells #[.bool p, .slice A2 l2 c2, .slice B2 j2 e2] 51 (0, 0)) ∧ w.heap.size ≤ b ∧ Only [b] w1 w' := by
  go_enter Tryz.func60, Tryz.ntmps60
  go_wp2_with fail
  have b0 : ((w.alloc (.cells #[.bool true, .slice A1 l1 c1, .slice B1 j1 e1] 51)).alloc (.cells #[.bool false, .slice none 0 0, .slice none 0 0] 51)).heap[w.heap.size]? = some (.cells #[.bool true, .slice A1 l1 c1, .slice B1 j1 e1] 51 (0, 0)) := block_alloc (block_new _ _)
  have b2 : ((w.alloc (.cells #[.bool true, .slice A1 l1 c1, .slice B1 j1 e1] 51)).alloc (.cells #[.bool false, .slice none 0 0, .slice none 0 0] 51)).heap[w.heap.size + 1]? = some (.cells #[.bool false, .slice none 0 0, .slice none 0 0] 51 (0, 0)) := block_newr (by simp) _
  have HO0 := Lib.hid (show Only [] w ((w.alloc (.cells #[.bool true, .slice A1 l1 c1, .slice B1 j1 e1] 51)).alloc (.cells #[.bool false, .slice none 0 0, .slice none 0 0] 51)) from ((Only.refl [] w).alloc _).alloc _)
  generalize hw0 : (w.alloc (.cells #[.bool true, .slice A1 l1 c1, .slice B1 j1 e1] 51)).alloc (.cells #[.bool false, .slice none 0 0, .slice none 0 0] 51) = w0 at *
  have q0 := cell_of b0 0 rfl
  have q1 := cell_of b0 1 rfl
  have q2 := cell_of b0 2 rfl
  have HB0 := Lib.hid b0
  have HB2 := Lib.hid b2
  have r0 := cell_of b2 0 rfl
  have r1 := cell_of b2 1 rfl
  have r2 := cell_of b2 2 rfl
  have f0 := free_of b2 0
  have f1 := free_of b2 1
  have f2 := free_of b2 2
  clear hw0 b0 b2
  go_region
  all_goals
    go_wp2_with fail
    refine bodyPost_ret (v := .agg #[.bool false, .slice A1 l1 c1, .slice B1 j1 e1]) (by simp [results, Tryz.results60, go_sem, r0, r1, r2]) rfl ⟨rfl, w0, _, _, _, _, _, _, _, _, HO0.out, HB2.out, (show w.heap.size ≤ w.heap.size + 1 by omega), ?_⟩
    exact (three_only _ _ _ _ _).drew
set_option maxRecDepth 8000 in
set_option maxHeartbeats 4000000 in
theorem negQ_pos (A1 B1 : Option Addr) (l1 c1 j1 e1 : Nat) (w : World) :
    Calls Tryz.prog 60 #[.agg #[.bool false, .slice A1 l1 c1, .slice B1 j1 e1]] w fun e w' => e = .returned (.agg #[.bool (!decide (l1 = 0)), .slice A1 l1 c1, .slice B1 j1 e1]) ∧ ∃ w1 p A2 l2 c2 B2 j2 e2 b, Only [] w w1 ∧ w1.heap[b]? = some (.cells #[.bool p, .slice A2 l2 c2, .slice B2 j2 e2] 51 (0, 0)) ∧ w.heap.size ≤ b ∧ Only [b] w1 w' := by
  go_enter Tryz.func60, Tryz.ntmps60
  go_wp2_with fail
  have b0 : ((w.alloc (.cells #[.bool false, .slice A1 l1 c1, .slice B1 j1 e1] 51)).alloc (.cells #[.bool false, .slice none 0 0, .slice none 0 0] 51)).heap[w.heap.size]? = some (.cells #[.bool false, .slice A1 l1 c1, .slice B1 j1 e1] 51 (0, 0)) := block_alloc (block_new _ _)
  have b2 : ((w.alloc (.cells #[.bool false, .slice A1 l1 c1, .slice B1 j1 e1] 51)).alloc (.cells #[.bool false, .slice none 0 0, .slice none 0 0] 51)).heap[w.heap.size + 1]? = some (.cells #[.bool false, .slice none 0 0, .slice none 0 0] 51 (0, 0)) := block_newr (by simp) _
  have HO0 := Lib.hid (show Only [] w ((w.alloc (.cells #[.bool false, .slice A1 l1 c1, .slice B1 j1 e1] 51)).alloc (.cells #[.bool false, .slice none 0 0, .slice none 0 0] 51)) from ((Only.refl [] w).alloc _).alloc _)
  generalize hw0 : (w.alloc (.cells #[.bool false, .slice A1 l1 c1, .slice B1 j1 e1] 51)).alloc (.cells #[.bool false, .slice none 0 0, .slice none 0 0] 51) = w0 at *
  have q0 := cell_of b0 0 rfl
  have q1 := cell_of b0 1 rfl
  have q2 := cell_of b0 2 rfl
  have HB0 := Lib.hid b0
  have HB2 := Lib.hid b2
  have r0 := cell_of b2 0 rfl
  have r1 := cell_of b2 1 rfl
  have r2 := cell_of b2 2 rfl
  have f0 := free_of b2 0
  have f1 := free_of b2 1
  have f2 := free_of b2 2
  clear hw0 b0 b2
  have g0 : w0.cell? ⟨w.heap.size, 0, none⟩ = some (.bool false) ∧ w0.cell? ⟨w.heap.size, 1, none⟩ = some (.slice A1 l1 c1) ∧ w0.cell? ⟨w.heap.size, 2, none⟩ = some (.slice B1 j1 e1) := ⟨q0, q1, q2⟩
  clear q0 q1 q2 r0 r1 r2 f0 f1 f2
  go_region_held3 (fun w' => w'.cell? ⟨w.heap.size, 0, none⟩ = some (.bool false) ∧ w'.cell? ⟨w.heap.size, 1, none⟩ = some (.slice A1 l1 c1) ∧ w'.cell? ⟨w.heap.size, 2, none⟩ = some (.slice B1 j1 e1)) (first | exact g0 | exact three_keep (by assumption) (by assumption : Only _ _ _) | exact three_off (by assumption) (three_only _ _ _ _ _) (by omega)) (first | (go_at_call 87; refine (zero_ _ _ _ _ _ _ _ _).mono ?_; rintro e w3 ⟨rfl, ho⟩; have HO1 := Lib.hid (Only.trans (by first | exact Only.refl [] w0 | exact (Only.refl [] w0).drew) ho : Only [] w0 w3); have hrb := HO1.out.at HB2.out (by simp); have r0 := cell_of hrb 0 rfl; have r1 := cell_of hrb 1 rfl; have r2 := cell_of hrb 2 rfl; have f0 := free_of hrb 0; have f1 := free_of hrb 1; have f2 := free_of hrb 2; have HRB := Lib.hid hrb; clear hrb))
  all_goals
    go_wp2_with fail
    refine bodyPost_ret (v := .agg #[.bool (!decide (l1 = 0)), .slice A1 l1 c1, .slice B1 j1 e1]) (by simp [results, Tryz.results60, go_sem, r0, r1, r2]) rfl ⟨rfl, w3, _, _, _, _, _, _, _, _, HO0.out.trans HO1.out, HRB.out, (show w.heap.size ≤ w.heap.size + 1 by omega), ?_⟩
    first | exact three_only _ _ _ _ _ | exact (three_only _ _ _ _ _).drew
theorem RatAt.len {w : World} {p : Bool} {A : Option Addr} {l c : Nat} {d : Value} {z : Int} {k : Nat} (h : RatAt w (.agg #[.bool p, .slice A l c, d]) z k) : l = 0 ↔ z = 0 := by
  obtain ⟨_, N, m, ⟨A', c', hv, _⟩, _, _, he⟩ := h.parts
  cases hv
  have hp : 0 < 2 ^ m := Nat.pow_pos (by decide)
  constructor
  · intro h0
    by_cases hN : N = 0
    · rw [hN, Nat.zero_mul] at he; omega
    · have := nd_pos hN; omega
  · rintro rfl
    have : N * 2 ^ m = 0 := by rw [← he]; rfl
    rcases Nat.mul_eq_zero.1 this with h' | h'
    · rw [h']; rfl
    · omega
theorem RatAt.neg {w : World} {p q : Bool} {n d : Value} {z : Int} {k : Nat} (h : RatAt w (.agg #[.bool p, n, d]) z k) (hq : q = decide (-z < 0)) : RatAt w (.agg #[.bool q, n, d]) (-z) k := by
  obtain ⟨_, N, m, hn, hd, hm, he⟩ := h.parts
  exact ⟨n, d, N, m, by rw [hq], hn, hd, hm, by rw [Int.natAbs_neg]; exact he⟩
theorem negQ_ (v : Value) (z : Int) (k : Nat) (w : World) (h : RatAt w v z k) :
    Calls Tryz.prog 60 #[v] w fun e w' => ∃ u, e = .returned u ∧ RatAt w' u (-z) k ∧ Only [] w w' := by
  obtain ⟨p, A1, l1, c1, B1, j1, e1, rfl⟩ := h.open
  have hl := h.len
  obtain ⟨hp, _⟩ := h.parts
  have fin : ∀ {w1 w' : World} {b : Nat} {p A2 l2 c2 B2 j2 e2} {u : Value}, RatAt w u (-z) k → Only [] w w1 → w1.heap[b]? = some (.cells #[.bool p, .slice A2 l2 c2, .slice B2 j2 e2] 51 (0, 0)) → w.heap.size ≤ b → Only [b] w1 w' → RatAt w' u (-z) k ∧ Only [] w w' := by
    intro w1 w' b p A2 l2 c2 B2 j2 e2 u hu ho hb hlt ho2
    exact ⟨(hu.frame ho).past hb ho2, Only.then ho ho2 (fun t ht => by simp only [List.mem_cons, List.not_mem_nil, or_false] at ht; subst ht; exact .inr hlt)⟩
  cases p
  · refine (negQ_pos A1 B1 l1 c1 j1 e1 w).mono ?_
    rintro e w' ⟨rfl, w1, p, A2, l2, c2, B2, j2, e2, b, ho, hb, hlt, ho2⟩
    have hz : ¬ z < 0 := of_decide_eq_false hp.symm
    obtain ⟨h1, h2⟩ := fin (h.neg (q := !decide (l1 = 0)) (by
      by_cases h0 : l1 = 0
      · have := hl.1 h0
        rw [decide_eq_true h0, decide_eq_false (by omega)]; rfl
      · have : z ≠ 0 := fun h' => h0 (hl.2 h')
        rw [decide_eq_false h0, decide_eq_true (by omega)]; rfl)) ho hb hlt ho2
    exact ⟨_, rfl, h1, h2⟩
  · refine (negQ_neg A1 B1 l1 c1 j1 e1 w).mono ?_
    rintro e w' ⟨rfl, w1, p, A2, l2, c2, B2, j2, e2, b, ho, hb, hlt, ho2⟩
    have hz : z < 0 := of_decide_eq_true hp.symm
    obtain ⟨h1, h2⟩ := fin (h.neg (q := false) (by rw [decide_eq_false (by omega)])) ho hb hlt ho2
    exact ⟨_, rfl, h1, h2⟩
set_option maxRecDepth 8000 in
set_option maxHeartbeats 4000000 in
theorem subQ_ (x y : Value) (z1 z2 : Int) (k1 k2 : Nat) (w : World) (hx : RatAt w x z1 k1) (hy : RatAt w y z2 k2) (hz1 : nd z1.natAbs ≤ 200000) (hz2 : nd z2.natAbs ≤ 200000) (hk1 : k1 ≤ 200000) (hk2 : k2 ≤ 200000) :
    Calls Tryz.prog 34 #[x, y] w fun e w' => ∃ v, e = .returned v ∧ RatAt w' v (z1 * 2 ^ k2 + -z2 * 2 ^ k1) (k1 + k2) ∧ Only [] w w' := by
  obtain ⟨p1, A1, l1, c1, B1, j1, e1, rfl⟩ := hx.open
  obtain ⟨p2, A2, l2, c2, B2, j2, e2, rfl⟩ := hy.open
  have HX := Lib.hid hx
  have HY := Lib.hid hy
  have HZ := Lib.hid (show nd z1.natAbs ≤ 200000 ∧ nd (-z2).natAbs ≤ 200000 by rw [Int.natAbs_neg]; exact ⟨hz1, hz2⟩)
  clear hx hy hz1 hz2
  go_enter Tryz.func34, Tryz.ntmps34
  go_wp2_with fail
  have b0 : (((w.alloc (.cells #[.bool p1, .slice A1 l1 c1, .slice B1 j1 e1] 51)).alloc (.cells #[.bool p2, .slice A2 l2 c2, .slice B2 j2 e2] 51)).alloc (.cells #[.bool false, .slice none 0 0, .slice none 0 0] 51)).heap[w.heap.size]? = some (.cells #[.bool p1, .slice A1 l1 c1, .slice B1 j1 e1] 51 (0, 0)) := block_alloc (block_alloc (block_new _ _))
  have b1 : (((w.alloc (.cells #[.bool p1, .slice A1 l1 c1, .slice B1 j1 e1] 51)).alloc (.cells #[.bool p2, .slice A2 l2 c2, .slice B2 j2 e2] 51)).alloc (.cells #[.bool false, .slice none 0 0, .slice none 0 0] 51)).heap[w.heap.size + 1]? = some (.cells #[.bool p2, .slice A2 l2 c2, .slice B2 j2 e2] 51 (0, 0)) := block_alloc (block_newr (by simp) _)
  have b2 : (((w.alloc (.cells #[.bool p1, .slice A1 l1 c1, .slice B1 j1 e1] 51)).alloc (.cells #[.bool p2, .slice A2 l2 c2, .slice B2 j2 e2] 51)).alloc (.cells #[.bool false, .slice none 0 0, .slice none 0 0] 51)).heap[w.heap.size + 1 + 1]? = some (.cells #[.bool false, .slice none 0 0, .slice none 0 0] 51 (0, 0)) := block_newr (by simp) _
  have HO0 := Lib.hid (show Only [] w (((w.alloc (.cells #[.bool p1, .slice A1 l1 c1, .slice B1 j1 e1] 51)).alloc (.cells #[.bool p2, .slice A2 l2 c2, .slice B2 j2 e2] 51)).alloc (.cells #[.bool false, .slice none 0 0, .slice none 0 0] 51)) from (((Only.refl [] w).alloc _).alloc _).alloc _)
  generalize hw0 : ((w.alloc (.cells #[.bool p1, .slice A1 l1 c1, .slice B1 j1 e1] 51)).alloc (.cells #[.bool p2, .slice A2 l2 c2, .slice B2 j2 e2] 51)).alloc (.cells #[.bool false, .slice none 0 0, .slice none 0 0] 51) = w0 at *
  have g0 : w0.cell? ⟨w.heap.size, 0, none⟩ = some (.bool p1) ∧ w0.cell? ⟨w.heap.size, 1, none⟩ = some (.slice A1 l1 c1) ∧ w0.cell? ⟨w.heap.size, 2, none⟩ = some (.slice B1 j1 e1) ∧ w0.cell? ⟨w.heap.size + 1, 0, none⟩ = some (.bool p2) ∧ w0.cell? ⟨w.heap.size + 1, 1, none⟩ = some (.slice A2 l2 c2) ∧ w0.cell? ⟨w.heap.size + 1, 2, none⟩ = some (.slice B2 j2 e2) := ⟨cell_of b0 0 rfl, cell_of b0 1 rfl, cell_of b0 2 rfl, cell_of b1 0 rfl, cell_of b1 1 rfl, cell_of b1 2 rfl⟩
  have HB2 := Lib.hid b2
  clear hw0 b0 b1 b2
  go_region_held3 (fun w' => w'.cell? ⟨w.heap.size, 0, none⟩ = some (.bool p1) ∧ w'.cell? ⟨w.heap.size, 1, none⟩ = some (.slice A1 l1 c1) ∧ w'.cell? ⟨w.heap.size, 2, none⟩ = some (.slice B1 j1 e1) ∧ w'.cell? ⟨w.heap.size + 1, 0, none⟩ = some (.bool p2) ∧ w'.cell? ⟨w.heap.size + 1, 1, none⟩ = some (.slice A2 l2 c2) ∧ w'.cell? ⟨w.heap.size + 1, 2, none⟩ = some (.slice B2 j2 e2)) (first | exact g0 | exact six_keep (by assumption) (by assumption : Only _ _ _) | exact six_off (by assumption) (three_only _ _ _ _ _) (by omega) (by omega)) (first
    | (go_at_call 60; refine (negQ_ _ z2 k2 w0.drew ((HY.out.frame HO0.out).frame (Only.refl [] w0).drew)).mono ?_; rintro e w1 ⟨x1, rfl, h1, ho⟩; have HM1 := Lib.hid h1; have HO1 := Lib.hid ((Only.refl [] w0).drew.trans ho); clear h1)
    | (go_at_call 32; refine (addQ_ _ x1 z1 (-z2) k1 k2 w1 ((HX.out.frame HO0.out).frame HO1.out) HM1.out HZ.out.1 HZ.out.2 hk1 hk2).mono ?_; rintro e w3 ⟨x3, rfl, hr, ho⟩; obtain ⟨p3, A3, l3, c3, B3, j3, e3, rfl⟩ := hr.open; have HR3 := Lib.hid hr; have HO3 := Lib.hid (HO1.out.trans ho); have hrb := HO3.out.at HB2.out (by simp); have r0 := cell_of hrb 0 rfl; have r1 := cell_of hrb 1 rfl; have r2 := cell_of hrb 2 rfl; have f0 := free_of hrb 0; have f1 := free_of hrb 1; have f2 := free_of hrb 2; have HRB := Lib.hid hrb; clear hr hrb))
  all_goals
    go_wp2_with fail
    refine bodyPost_ret (v := .agg #[.bool p3, .slice A3 l3 c3, .slice B3 j3 e3]) (by simp [results, Tryz.results34, go_sem, r0, r1, r2]) rfl ⟨_, rfl, HR3.out.past HRB.out (three_only _ _ _ _ _), only_three (HO0.out.trans HO3.out) (by omega) _ _ _⟩
/-- -1, 0 or 1 -/
def signI (z : Int) : Int := if z = 0 then 0 else if z < 0 then -1 else 1
set_option maxRecDepth 8000 in
set_option maxHeartbeats 4000000 in
theorem sign_ (v : Value) (z : Int) (k : Nat) (w : World) (h : RatAt w v z k) :
    Calls Tryz.prog 59 #[v] w fun e w' => e = .returned (.int .i64 (signI z)) ∧ Only [] w w' := by
  obtain ⟨p, A1, l1, c1, B1, j1, e1, rfl⟩ := h.open
  have hl := h.len
  obtain ⟨hp, _⟩ := h.parts
  have hs : signI z = if l1 = 0 then 0 else if p = true then -1 else 1 := by
    unfold signI
    by_cases h0 : z = 0
    · rw [if_pos h0, if_pos (hl.2 h0)]
    · rw [if_neg h0, if_neg (fun h' => h0 (hl.1 h')), hp]
      simp
  rw [hs]
  clear h hl hs hp
  by_cases h0 : l1 = 0
  · have hd := Lib.hid (decide_eq_true h0)
    rw [if_pos h0]
    clear h0
    go_enter Tryz.func59, Tryz.ntmps59
    go_wp2_with (go_at_call 87; refine (zero_ _ _ _ _ _ _ _ _).mono ?_; rintro e w3 ⟨rfl, ho⟩; rw [hd.out]; have HO := Lib.hid ho; clear ho)
    go_ret
    exact ⟨rfl, ((Only.refl [] w).alloc _).trans HO.out⟩
  · have hd := Lib.hid (decide_eq_false h0)
    rw [if_neg h0]
    clear h0
    cases p
    · go_enter Tryz.func59, Tryz.ntmps59
      go_wp2_with (go_at_call 87; refine (zero_ _ _ _ _ _ _ _ _).mono ?_; rintro e w3 ⟨rfl, ho⟩; rw [hd.out]; have HO := Lib.hid ho; have q0 := cell_keep (cell_of (block_new w (.cells #[.bool false, .slice A1 l1 c1, .slice B1 j1 e1] 51)) 0 rfl) ho; clear ho)
      go_ret
      exact ⟨rfl, ((Only.refl [] w).alloc _).trans HO.out⟩
    · go_enter Tryz.func59, Tryz.ntmps59
      go_wp2_with (go_at_call 87; refine (zero_ _ _ _ _ _ _ _ _).mono ?_; rintro e w3 ⟨rfl, ho⟩; rw [hd.out]; have HO := Lib.hid ho; have q0 := cell_keep (cell_of (block_new w (.cells #[.bool true, .slice A1 l1 c1, .slice B1 j1 e1] 51)) 0 rfl) ho; clear ho)
      go_ret
      exact ⟨rfl, ((Only.refl [] w).alloc _).trans HO.out⟩
set_option maxRecDepth 8000 in
set_option maxHeartbeats 4000000 in
theorem cmpQ_ (x y : Value) (z1 z2 : Int) (k1 k2 : Nat) (w : World) (hx : RatAt w x z1 k1) (hy : RatAt w y z2 k2) (hz1 : nd z1.natAbs ≤ 200000) (hz2 : nd z2.natAbs ≤ 200000) (hk1 : k1 ≤ 200000) (hk2 : k2 ≤ 200000) :
    Calls Tryz.prog 33 #[x, y] w fun e w' => e = .returned (.int .i64 (signI (z1 * 2 ^ k2 + -z2 * 2 ^ k1))) ∧ Only [] w w' := by
  obtain ⟨p1, A1, l1, c1, B1, j1, e1, rfl⟩ := hx.open
  obtain ⟨p2, A2, l2, c2, B2, j2, e2, rfl⟩ := hy.open
  have HX := Lib.hid hx
  have HY := Lib.hid hy
  have HZ := Lib.hid (show nd z1.natAbs ≤ 200000 ∧ nd z2.natAbs ≤ 200000 from ⟨hz1, hz2⟩)
  clear hx hy hz1 hz2
  go_enter Tryz.func33, Tryz.ntmps33
  go_wp2_with first
    | (go_at_call 34; refine (subQ_ _ _ z1 z2 k1 k2 _ (HX.out.frame (((Only.refl [] w).alloc _).alloc _)) (HY.out.frame (((Only.refl [] w).alloc _).alloc _)) HZ.out.1 HZ.out.2 hk1 hk2).mono ?_; rintro e w1 ⟨x1, rfl, h1, ho⟩; have HM1 := Lib.hid h1; have HO1 := Lib.hid ((((Only.refl [] w).alloc _).alloc _).trans ho); clear h1 ho)
    | (go_at_call 59; refine (sign_ x1 _ _ w1 HM1.out).mono ?_; rintro e w2 ⟨rfl, ho⟩; have HO2 := Lib.hid ho; clear ho)
  go_ret
  exact ⟨rfl, HO1.out.trans HO2.out⟩
end Go.Proofs.YtpamkblhdgjlcaaGreatDoor
