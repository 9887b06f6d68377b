/- Walks of math/big's add, compare and multiply of naturals at the few lengths that layer 25 needs. -/
import Derived.Test.YtpamkblhdgjlcaaGreatDoorProg
import Derived.Test.YtpamkblhdgjlcaaGreatDoorBase
import Derived.Test.YtpamkblhdgjlcaaGreatDoorNat1
import Derived.Test.YtpamkblhdgjlcaaGreatDoorNat2
import Derived.Test.YtpamkblhdgjlcaaGreatDoorShelf
import Derived.WalkKit
import Derived.WalkSpells
import Derived.WalkLawsBesides
import Derived.Handy
import Derived.Deep.QuietTactic
import Derived.BigQuiet
import Derived.Deep.RegionHeld3
set_option linter.unusedSimpArgs false
set_option linter.unusedVariables false
namespace Go.Proofs.YtpamkblhdgjlcaaGreatDoor
open Go.RowKit Go.Shelf

set_option maxHeartbeats 1000000 in
/-- one word and one word, onto the first, that has no spare room -/
theorem add_new (a b cb : Nat) (x y : Int) (w : World) (hx0 : 0 ≤ x) (hy0 : 0 ≤ y) (hn : (lo64 (x + y) == 0) = false) (hh : hi64 (x + y) = 0) (hcb : 1 ≤ cb)
    (hx : w.cell? ⟨a, 0, none⟩ = some (.int .u64 x)) (hy : w.cell? ⟨b, 0, none⟩ = some (.int .u64 y)) :
    Calls Tryz.prog 46 #[.slice (some ⟨a, 0, none⟩) 1 1, .slice (some ⟨a, 0, none⟩) 1 1, .slice (some ⟨b, 0, none⟩) 1 cb] w fun e w' =>
      e = .returned (.slice (some ⟨w.heap.size, 0, none⟩) 1 6) ∧ ∃ n, w' = (w.alloc (.cells #[.int .u64 (lo64 (x + y)), .int .u64 0, .int .u64 0, .int .u64 0, .int .u64 0, .int .u64 0] 82 (0, 0))).drewN n := by
  have hla : a < w.heap.size := World.block_lt_of_cell? w _ hx
  have hlb : b < w.heap.size := World.block_lt_of_cell? w _ hy
  have hen := addVV_enters
  have ha := addVV1 w.heap.size a b 6 1 cb x y (.int .u64 0) (w.alloc (.cells #[.int .u64 0, .int .u64 0, .int .u64 0, .int .u64 0, .int .u64 0, .int .u64 0] 82 (0, 0))).drew hx0 hy0 (cell_old hx) (cell_old hy) (by simp [go_sem]) (by simp [go_sem])
  simp only [go_sem] at ha
  have hz : (#[Value.int .u64 0, .int .u64 0, .int .u64 0, .int .u64 0, .int .u64 0, .int .u64 0].setIfInBounds 0 (.int .u64 (lo64 (x + y)))) = #[.int .u64 (lo64 (x + y)), .int .u64 0, .int .u64 0, .int .u64 0, .int .u64 0, .int .u64 0] := rfl
  rw [hz] at ha
  have HA := Lib.hid ha
  clear ha
  go_enter Tryz.func46, Tryz.ntmps46
  go_wp2_with (go_at_call 65; refine (make_one2 _ _ _).mono ?_; rintro e w' ⟨rfl, rfl⟩)
  go_region_with (first | (go_at_call 40; refine HA.out.mono ?_; rintro e w' ⟨rfl, n, rfl⟩))
  all_goals (go_wp2_with (go_at_call 68; refine (norm2_1 _ _ _ _ (by decide) hn (by simp [go_sem]) (by simp [go_sem])).mono ?_; rintro e w' ⟨rfl, rfl⟩))
  all_goals (go_ret; exact ⟨rfl, _, rfl⟩)

def room (x : Int) (c1 c2 c3 c4 c5 : Value) : Obj := .cells #[.int .u64 x, c1, c2, c3, c4, c5] 82 (0, 0)

set_option maxHeartbeats 1000000 in
/-- one word and one word, onto the first, that has spare room: before the norm -/
theorem add_in (a b cb : Nat) (x y : Int) (c1 c2 c3 c4 c5 : Value) (w : World) (hx0 : 0 ≤ x) (hy0 : 0 ≤ y) (hcb : 1 ≤ cb)
    (h : w.heap[a]? = some (room x c1 c2 c3 c4 c5)) (hy : w.cell? ⟨b, 0, none⟩ = some (.int .u64 y)) (l : Nat)
    (HN : Hid (∀ n, Calls Tryz.prog 68 #[.slice (some ⟨a, 0, none⟩) 2 6] (((w.setCell ⟨a, 0, none⟩ (.int .u64 (lo64 (x + y)))).setCell ⟨a, 1, none⟩ (.int .u64 (hi64 (x + y)))).drewN n) fun e w' =>
      e = .returned (.slice (some ⟨a, 0, none⟩) l 6) ∧ (((w.setCell ⟨a, 0, none⟩ (.int .u64 (lo64 (x + y)))).setCell ⟨a, 1, none⟩ (.int .u64 (hi64 (x + y)))).drewN n) = w')) :
    Calls Tryz.prog 46 #[.slice (some ⟨a, 0, none⟩) 1 6, .slice (some ⟨a, 0, none⟩) 1 6, .slice (some ⟨b, 0, none⟩) 1 cb] w fun e w' =>
      e = .returned (.slice (some ⟨a, 0, none⟩) l 6) ∧ ∃ n, w' = ((w.setCell ⟨a, 0, none⟩ (.int .u64 (lo64 (x + y)))).setCell ⟨a, 1, none⟩ (.int .u64 (hi64 (x + y)))).drewN n := by
  have hen := addVV_enters
  have hx : w.cell? ⟨a, 0, none⟩ = some (.int .u64 x) := cell_of h 0 rfl
  have hx1 : w.cell? ⟨a, 1, none⟩ = some c1 := cell_of h 1 rfl
  have hf0 := free_of h 0
  have hf1 := free_of h 1
  have ha := addVV1 a a b 6 6 cb x y (.int .u64 x) w.drew hx0 hy0 hx hy hx hf0
  simp only [go_sem] at ha
  have HA := Lib.hid ha
  clear ha
  have hm := make_fit ⟨a, 0, none⟩ 1 6 2 w (by decide)
  have HM := Lib.hid hm
  clear hm h
  go_enter Tryz.func46, Tryz.ntmps46
  go_wp2_with (go_at_call 65; refine HM.out.mono ?_; rintro e w' ⟨rfl, rfl⟩)
  go_region_with (first | (go_at_call 40; refine HA.out.mono ?_; rintro e w' ⟨rfl, n, rfl⟩))
  all_goals (go_wp2_with (go_at_call 68; refine (HN.out _).mono ?_; rintro e w' ⟨rfl, rfl⟩))
  all_goals (go_ret; exact ⟨rfl, _, rfl⟩)
theorem add_in1 (a b cb : Nat) (x y : Int) (c1 c2 c3 c4 c5 : Value) (w : World) (hx0 : 0 ≤ x) (hy0 : 0 ≤ y) (hn : (lo64 (x + y) == 0) = false) (hh : hi64 (x + y) = 0) (hcb : 1 ≤ cb)
    (h : w.heap[a]? = some (room x c1 c2 c3 c4 c5)) (hy : w.cell? ⟨b, 0, none⟩ = some (.int .u64 y)) :
    Calls Tryz.prog 46 #[.slice (some ⟨a, 0, none⟩) 1 6, .slice (some ⟨a, 0, none⟩) 1 6, .slice (some ⟨b, 0, none⟩) 1 cb] w fun e w' =>
      e = .returned (.slice (some ⟨a, 0, none⟩) 1 6) ∧ Only [a] w w' ∧ w'.heap[a]? = some (room (lo64 (x + y)) (.int .u64 0) c2 c3 c4 c5) := by
  have hb : ((w.setCell ⟨a, 0, none⟩ (.int .u64 (lo64 (x + y)))).setCell ⟨a, 1, none⟩ (.int .u64 (hi64 (x + y)))).heap[a]? = some (room (lo64 (x + y)) (.int .u64 (hi64 (x + y))) c2 c3 c4 c5) :=
    block_setCell (block_setCell h 0 _) 1 _
  have HN : Hid (∀ n, Calls Tryz.prog 68 #[.slice (some ⟨a, 0, none⟩) 2 6] (((w.setCell ⟨a, 0, none⟩ (.int .u64 (lo64 (x + y)))).setCell ⟨a, 1, none⟩ (.int .u64 (hi64 (x + y)))).drewN n) fun e w' =>
      e = .returned (.slice (some ⟨a, 0, none⟩) 1 6) ∧ (((w.setCell ⟨a, 0, none⟩ (.int .u64 (lo64 (x + y)))).setCell ⟨a, 1, none⟩ (.int .u64 (hi64 (x + y)))).drewN n) = w') :=
    Lib.hid fun n => norm2_1 a 6 _ _ (by decide) hn (cell_of (block_drewN hb) 0 rfl) (by
      have h1 := cell_of (block_drewN (n := n) hb) 1 rfl
      rw [hh] at h1 ⊢
      exact h1)
  refine (add_in a b cb x y c1 c2 c3 c4 c5 w hx0 hy0 hcb h hy 1 HN).mono ?_
  · rintro e w' ⟨rfl, n, rfl⟩
    exact ⟨rfl, (((Only.refl _ w).setCell (.inl (by simp)) _).setCell (.inl (by simp)) _).drewN n, by rw [← hh]; exact block_drewN hb⟩
theorem add_in2 (a b cb : Nat) (x y : Int) (c1 c2 c3 c4 c5 : Value) (w : World) (hx0 : 0 ≤ x) (hy0 : 0 ≤ y) (hh : (hi64 (x + y) == 0) = false) (hcb : 1 ≤ cb)
    (h : w.heap[a]? = some (room x c1 c2 c3 c4 c5)) (hy : w.cell? ⟨b, 0, none⟩ = some (.int .u64 y)) :
    Calls Tryz.prog 46 #[.slice (some ⟨a, 0, none⟩) 1 6, .slice (some ⟨a, 0, none⟩) 1 6, .slice (some ⟨b, 0, none⟩) 1 cb] w fun e w' =>
      e = .returned (.slice (some ⟨a, 0, none⟩) 2 6) ∧ Only [a] w w' ∧ w'.heap[a]? = some (room (lo64 (x + y)) (.int .u64 (hi64 (x + y))) c2 c3 c4 c5) := by
  have hb : ((w.setCell ⟨a, 0, none⟩ (.int .u64 (lo64 (x + y)))).setCell ⟨a, 1, none⟩ (.int .u64 (hi64 (x + y)))).heap[a]? = some (room (lo64 (x + y)) (.int .u64 (hi64 (x + y))) c2 c3 c4 c5) :=
    block_setCell (block_setCell h 0 _) 1 _
  have HN : Hid (∀ n, Calls Tryz.prog 68 #[.slice (some ⟨a, 0, none⟩) 2 6] (((w.setCell ⟨a, 0, none⟩ (.int .u64 (lo64 (x + y)))).setCell ⟨a, 1, none⟩ (.int .u64 (hi64 (x + y)))).drewN n) fun e w' =>
      e = .returned (.slice (some ⟨a, 0, none⟩) 2 6) ∧ (((w.setCell ⟨a, 0, none⟩ (.int .u64 (lo64 (x + y)))).setCell ⟨a, 1, none⟩ (.int .u64 (hi64 (x + y)))).drewN n) = w') :=
    Lib.hid fun n => norm2_2 a 6 _ _ (by decide) hh (cell_of (block_drewN hb) 1 rfl)
  refine (add_in a b cb x y c1 c2 c3 c4 c5 w hx0 hy0 hcb h hy 2 HN).mono ?_
  · rintro e w' ⟨rfl, n, rfl⟩
    exact ⟨rfl, (((Only.refl _ w).setCell (.inl (by simp)) _).setCell (.inl (by simp)) _).drewN n, block_drewN hb⟩

set_option maxHeartbeats 400000 in
theorem add_nil (w : World) : Calls Tryz.prog 46 #[.slice none 0 0, .slice none 0 0, .slice none 0 0] w fun e w' => e = .returned (.slice none 0 0) ∧ w = w' := by
  go_enter Tryz.func46, Tryz.ntmps46
  go_wp2_with fail
  go_ret
  exact ⟨rfl, rfl⟩
set_option maxHeartbeats 400000 in
theorem add_self (s c : Nat) (x : Int) (w : World) (h1 : 1 ≤ c) (hx : w.cell? ⟨s, 0, none⟩ = some (.int .u64 x)) (hf : w.frozen? ⟨s, 0, none⟩ = false) :
    Calls Tryz.prog 46 #[.slice (some ⟨s, 0, none⟩) 1 c, .slice (some ⟨s, 0, none⟩) 1 c, .slice none 0 0] w fun e w' => e = .returned (.slice (some ⟨s, 0, none⟩) 1 c) ∧ w' = w.setCell ⟨s, 0, none⟩ (.int .u64 x) := by
  have HS := Lib.hid (set_self s c x w h1 hx hf)
  go_enter Tryz.func46, Tryz.ntmps46
  go_wp2_with (go_at_call 64; refine HS.out.mono ?_; rintro e w' ⟨rfl, rfl⟩)
  go_ret
  exact ⟨rfl, rfl⟩
set_option maxHeartbeats 400000 in
theorem add_first (s c : Nat) (x : Int) (w : World) (h1 : 1 ≤ c) (hx : w.cell? ⟨s, 0, none⟩ = some (.int .u64 x)) :
    Calls Tryz.prog 46 #[.slice none 0 0, .slice (some ⟨s, 0, none⟩) 1 c, .slice none 0 0] w fun e w' => e = .returned (.slice (some ⟨w.heap.size, 0, none⟩) 1 1) ∧ w' = w.alloc (.cells #[.int .u64 x] 82 (0, 0)) := by
  have HS := Lib.hid (set_new s c x w hx)
  go_enter Tryz.func46, Tryz.ntmps46
  go_wp2_with (go_at_call 64; refine HS.out.mono ?_; rintro e w' ⟨rfl, rfl⟩)
  go_ret
  exact ⟨rfl, rfl⟩
set_option maxHeartbeats 400000 in
theorem add_second (s c : Nat) (x : Int) (w : World) (h1 : 1 ≤ c) (hx : w.cell? ⟨s, 0, none⟩ = some (.int .u64 x)) :
    Calls Tryz.prog 46 #[.slice none 0 0, .slice none 0 0, .slice (some ⟨s, 0, none⟩) 1 c] w fun e w' => e = .returned (.slice (some ⟨w.heap.size, 0, none⟩) 1 1) ∧ w' = w.alloc (.cells #[.int .u64 x] 82 (0, 0)) := by
  have HS := Lib.hid (add_first s c x w h1 hx)
  go_enter Tryz.func46, Tryz.ntmps46
  go_wp2_with (go_at_call 46; refine HS.out.mono ?_; rintro e w' ⟨rfl, rfl⟩)
  go_ret
  exact ⟨rfl, rfl⟩

/-! sub: only where the second is nothing -/
set_option maxHeartbeats 400000 in
theorem sub_self (s c : Nat) (x : Int) (w : World) (h1 : 1 ≤ c) (hx : w.cell? ⟨s, 0, none⟩ = some (.int .u64 x)) (hf : w.frozen? ⟨s, 0, none⟩ = false) :
    Calls Tryz.prog 48 #[.slice (some ⟨s, 0, none⟩) 1 c, .slice (some ⟨s, 0, none⟩) 1 c, .slice none 0 0] w fun e w' => e = .returned (.slice (some ⟨s, 0, none⟩) 1 c) ∧ w' = w.setCell ⟨s, 0, none⟩ (.int .u64 x) := by
  have HS := Lib.hid (set_self s c x w h1 hx hf)
  go_enter Tryz.func48, Tryz.ntmps48
  go_wp2_with (go_at_call 64; refine HS.out.mono ?_; rintro e w' ⟨rfl, rfl⟩)
  go_ret
  exact ⟨rfl, rfl⟩
set_option maxHeartbeats 400000 in
theorem sub_first (s c : Nat) (x : Int) (w : World) (h1 : 1 ≤ c) (hx : w.cell? ⟨s, 0, none⟩ = some (.int .u64 x)) :
    Calls Tryz.prog 48 #[.slice none 0 0, .slice (some ⟨s, 0, none⟩) 1 c, .slice none 0 0] w fun e w' => e = .returned (.slice (some ⟨w.heap.size, 0, none⟩) 1 1) ∧ w' = w.alloc (.cells #[.int .u64 x] 82 (0, 0)) := by
  have HS := Lib.hid (set_new s c x w hx)
  go_enter Tryz.func48, Tryz.ntmps48
  go_wp2_with (go_at_call 64; refine HS.out.mono ?_; rintro e w' ⟨rfl, rfl⟩)
  go_ret
  exact ⟨rfl, rfl⟩

/-! cmp -/
set_option maxHeartbeats 400000 in
theorem cmp_nil (w : World) : Calls Tryz.prog 47 #[.slice none 0 0, .slice none 0 0] w fun e w' => e = .returned (.int .i64 0) ∧ w = w' := by
  go_enter Tryz.func47, Tryz.ntmps47
  go_wp2_with fail
  go_ret
  exact ⟨rfl, rfl⟩
set_option maxHeartbeats 400000 in
theorem cmp_less (a : Addr) (c : Nat) (w : World) : Calls Tryz.prog 47 #[.slice none 0 0, .slice (some a) 1 c] w fun e w' => e = .returned (.int .i64 (-1)) ∧ w = w' := by
  go_enter Tryz.func47, Tryz.ntmps47
  go_wp2_with fail
  go_ret
  exact ⟨rfl, rfl⟩
set_option maxHeartbeats 400000 in
theorem cmp_more (a : Addr) (c : Nat) (w : World) : Calls Tryz.prog 47 #[.slice (some a) 1 c, .slice none 0 0] w fun e w' => e = .returned (.int .i64 1) ∧ w = w' := by
  go_enter Tryz.func47, Tryz.ntmps47
  go_wp2_with fail
  go_ret
  exact ⟨rfl, rfl⟩
def cmpI (x y : Int) : Int := if x < y then -1 else if y < x then 1 else 0
set_option maxHeartbeats 1000000 in
theorem cmp_one (a b c d : Nat) (x y : Int) (w : World) (hc : 1 ≤ c) (hd : 1 ≤ d) (hx : w.cell? ⟨a, 0, none⟩ = some (.int .u64 x)) (hy : w.cell? ⟨b, 0, none⟩ = some (.int .u64 y)) :
    Calls Tryz.prog 47 #[.slice (some ⟨a, 0, none⟩) 1 c, .slice (some ⟨b, 0, none⟩) 1 d] w fun e w' => e = .returned (.int .i64 (cmpI x y)) ∧ ∃ n, w' = w.drewN n := by
  rcases Int.lt_trichotomy x y with h | h | h
  · have d1 : decide (x < y) = true := decide_eq_true h
    have hv : cmpI x y = -1 := by simp [cmpI, h]
    rw [hv]
    go_enter Tryz.func47, Tryz.ntmps47
    go_wp2_with fail
    refine wp_loop_rounds 1 ?_
    rw [rounds_succ]
    go_wp2_with fail
    go_quiet (fail)
    go_wp2_with fail
    go_quiet (fail)
    go_wp2_with fail
    go_ret
    refine ⟨rfl, ?_⟩
    simp only [World.drewN_drewN]
    exact ⟨_, rfl⟩
  · have d1 : decide (x < y) = false := decide_eq_false (by omega)
    have d2 : decide (y < x) = false := decide_eq_false (by omega)
    have hv : cmpI x y = 0 := by simp [cmpI, h]
    rw [hv]
    go_enter Tryz.func47, Tryz.ntmps47
    go_wp2_with fail
    refine wp_loop_rounds 1 ?_
    rw [rounds_succ]
    go_wp2_with fail
    go_quiet (fail)
    go_wp2_with fail
    go_quiet (fail)
    go_wp2_with fail
    go_quiet (fail)
    go_wp2_with fail
    go_ret
    refine ⟨rfl, ?_⟩
    simp only [World.drewN_drewN]
    exact ⟨_, rfl⟩
  · have d1 : decide (x < y) = false := decide_eq_false (by omega)
    have d2 : decide (y < x) = true := decide_eq_true h
    have hv : cmpI x y = 1 := by
      have : ¬ x < y := by omega
      simp [cmpI, this, h]
    rw [hv]
    go_enter Tryz.func47, Tryz.ntmps47
    go_wp2_with fail
    refine wp_loop_rounds 1 ?_
    rw [rounds_succ]
    go_wp2_with fail
    go_quiet (fail)
    go_wp2_with fail
    go_quiet (fail)
    go_wp2_with fail
    go_quiet (fail)
    go_wp2_with fail
    go_ret
    refine ⟨rfl, ?_⟩
    simp only [World.drewN_drewN]
    exact ⟨_, rfl⟩
end Go.Proofs.YtpamkblhdgjlcaaGreatDoor
