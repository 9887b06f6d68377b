/- The quantiser's Step at the values that the law of layer 25 calls it with: sums of one word. -/
import Derived.Test.YtpamkblhdgjlcaaGreatDoorProg
import Derived.Test.YtpamkblhdgjlcaaGreatDoorBase
import Derived.Test.YtpamkblhdgjlcaaGreatDoorMem
import Derived.Test.YtpamkblhdgjlcaaGreatDoorInt3
import Derived.Test.YtpamkblhdgjlcaaGreatDoorIntV
import Derived.Test.YtpamkblhdgjlcaaGreatDoorQ1
import Derived.Test.YtpamkblhdgjlcaaGreatDoorQ2
import Derived.Test.YtpamkblhdgjlcaaGreatDoorQ3
import Derived.Test.YtpamkblhdgjlcaaGreatDoorQ4
set_option linter.unusedSimpArgs false
set_option linter.unusedVariables false
namespace Go.Proofs.YtpamkblhdgjlcaaGreatDoor
open Go.RowKit

/-- an Int of value v all of whose blocks lie from B on and below T -/
def IntB (w : World) (B T p : Nat) (v : Int) : Prop := ∃ s, IntVal w B p (decide (v < 0)) v.natAbs s ∧ p < T ∧ ∀ b ∈ sb s, b < T
theorem IntB.toV {w : World} {B T p : Nat} {v : Int} (h : IntB w B T p v) : IntV w B p v := by
  obtain ⟨s, h, _⟩ := h
  exact ⟨s, h⟩
theorem IntB.frame {w w' : World} {B T p : Nat} {v : Int} (h : IntB w B T p v) (ho : Only [] w w') : IntB w' B T p v := by
  obtain ⟨s, h, h1, h2⟩ := h
  exact ⟨s, h.only ho (by simp) (by simp), h1, h2⟩
theorem intAddB (ps py B T B2 : Nat) (a b : Int) (w : World) (hx : IntB w B T ps a) (hy : IntV w B2 py b) (hs : (0 ≤ a ∧ 0 ≤ b) ∨ (a ≤ 0 ∧ b ≤ 0)) (h : (a + b).natAbs < 18446744073709551616) (hB : B ≤ w.heap.size) :
    Calls Tryz.prog 26 #[.pointer (some ⟨ps, 0, none⟩), .pointer (some ⟨ps, 0, none⟩), .pointer (some ⟨py, 0, none⟩)] w fun e w' =>
      e = .returned (.pointer (some ⟨ps, 0, none⟩)) ∧ IntB w' B w'.heap.size ps (a + b) ∧ ∃ S, Only S w w' ∧ ∀ s ∈ S, B ≤ s ∧ s < T := by
  obtain ⟨sx, hx, hT, hTs⟩ := hx
  obtain ⟨sy, hy⟩ := hy
  have hn : (a + b).natAbs = a.natAbs + b.natAbs := by omega
  have hg : (decide (a < 0) || decide (b < 0)) = decide (a + b < 0) := by
    by_cases h1 : a < 0 <;> by_cases h2 : b < 0 <;> by_cases h3 : a + b < 0 <;> simp [h1, h2, h3] <;> omega
  rw [hn] at h
  refine (intAdd ps py B B2 _ _ sx sy _ _ w hx hy ?_ h hB).mono ?_
  · rcases hs with ⟨h1, h2⟩ | ⟨h1, h2⟩
    · exact .inl (by rw [decide_eq_false (by omega), decide_eq_false (by omega)])
    · by_cases h3 : a = 0
      · exact .inr (.inl (by omega))
      · by_cases h4 : b = 0
        · exact .inr (.inr (by omega))
        · exact .inl (by rw [decide_eq_true (by omega), decide_eq_true (by omega)])
  · rintro e w' ⟨rfl, s, V, _, O⟩
    rw [hg, ← hn] at V
    refine ⟨rfl, ⟨s, V, V.size, V.nat.lt⟩, _, O, fun t ht => ?_⟩
    rcases List.mem_cons.1 ht with rfl | ht
    · exact ⟨hx.low, hT⟩
    · exact ⟨hx.lows t ht, hTs t ht⟩
/-- the sum of the first k products -/
def psum (a b : Nat → Int) : Nat → Int
  | 0 => 0
  | k + 1 => psum a b k + a k * b k
theorem step_small (bits b0 b1 b2 a1 a2 x1 x2 y1 y2 x r : Int) (w : World) (h1 : 1 ≤ bits) (h2 : bits ≤ 31)
    (hc : ∀ k, k < 5 → ((0 ≤ psum (stepA b0 b1 b2 a1 a2) (stepB x x1 x2 y1 y2) k ∧ 0 ≤ stepA b0 b1 b2 a1 a2 k * stepB x x1 x2 y1 y2 k) ∨ (psum (stepA b0 b1 b2 a1 a2) (stepB x x1 x2 y1 y2) k ≤ 0 ∧ stepA b0 b1 b2 a1 a2 k * stepB x x1 x2 y1 y2 k ≤ 0)) ∧ (psum (stepA b0 b1 b2 a1 a2) (stepB x x1 x2 y1 y2) (k + 1)).natAbs < 18446744073709551616)
    (hn : ∀ B ps w1, IntV w1 B ps (psum (stepA b0 b1 b2 a1 a2) (stepB x x1 x2 y1 y2) 5) → Calls Tryz.prog 30 #[.pointer (some ⟨ps, 0, none⟩), .int .i64 bits] w1 fun e w' =>
      ∃ p, e = .returned (.pointer (some ⟨p, 0, none⟩)) ∧ IntV w' w1.heap.size p r ∧ Only [] w1 w') :
    Calls Tryz.prog 11 #[fixedV bits b0 b1 b2 a1 a2, stateV x1 x2 y1 y2, .int .i64 x] w fun e w' =>
      e = .returned (.tuple #[.int .i64 (keptI r), stateV (keptI x) (keptI x1) (keptI r) (keptI y1), .bool (keptI r != r)]) ∧ Only [] w w' := by
  refine step_walk bits b0 b1 b2 a1 a2 x1 x2 y1 y2 x r w h1 h2 (fun k T w' => IntB w' (w.heap.size + 1 + 1 + 1) T (w.heap.size + 1 + 1 + 1) (psum (stepA b0 b1 b2 a1 a2) (stepB x x1 x2 y1 y2) k) ∧ T ≤ w'.heap.size ∧ w.heap.size + 1 + 1 + 1 < T) ?_ ?_ ?_ ?_
  · intro w' h
    exact ⟨⟨_, ⟨h, .nil, Nat.le_refl _, by simp [sb], fun _ => rfl⟩, by omega, by simp [sb]⟩, by have := lt_of_block h; omega, by omega⟩
  · rintro k T w1 w2 ⟨h, h3, h4⟩ hT ho
    exact ⟨h.frame ho, Nat.le_trans h3 ho.size, h4⟩
  · rintro k T w1 py B2 hk ⟨h, h3, h4⟩ hT hy _
    refine (intAddB _ py _ T B2 _ _ w1 h hy (hc k hk).1 (hc k hk).2 (by omega)).mono ?_
    rintro e w' ⟨rfl, V, S, O, hS⟩
    exact ⟨rfl, ⟨V, Nat.le_refl _, by have := O.size; omega⟩, S, O, hS⟩
  · rintro T w1 ⟨h, _, _⟩
    exact hn _ _ _ h.toV
theorem nearV_low (pn B k u : Nat) (v r : Int) (w : World) (hn : IntV w B pn v) (hk : k = 1 ∨ k = 31) (hu : 2 ^ k = u) (h1 : 1 < u) (hq : v.natAbs = 0 ∨ v.natAbs / u ≠ 0) (hs : (decide (v < 0) && decide (v.natAbs % u ≠ 0)) = false) (hl : 2 * (v.natAbs % u) < u) (hul : u < 18446744073709551616)
    (hr1 : decide (r < 0) = (decide (v < 0) && decide (v.natAbs / u ≠ 0))) (hr2 : r.natAbs = v.natAbs / u) :
    Calls Tryz.prog 30 #[.pointer (some ⟨pn, 0, none⟩), .int .i64 k] w fun e w' =>
      ∃ p, e = .returned (.pointer (some ⟨p, 0, none⟩)) ∧ IntV w' w.heap.size p r ∧ Only [] w w' := by
  obtain ⟨s, hn⟩ := hn
  refine (nearest_low pn B v.natAbs u k _ s w hn hk hu h1 hq hs hl hul).mono ?_
  rintro e w' ⟨p, s', rfl, V, O⟩
  exact ⟨p, rfl, ⟨s', by rw [hr1, hr2]; exact V⟩, O⟩
theorem nearV_tie (pn B k u : Nat) (v r : Int) (w : World) (hn : IntV w B pn v) (hk : k = 1 ∨ k = 31) (hu : 2 ^ k = u) (h1 : 1 < u) (hneg : decide (v < 0) = false) (hl : 2 * (v.natAbs % u) = u) (hodd : bits .and .u64 ((v.natAbs / u : Nat) : Int) 1 = 1) (hq0 : v.natAbs / u ≠ 0) (hql : v.natAbs / u + 1 < 18446744073709551616) (hul : u < 18446744073709551616)
    (hr1 : decide (r < 0) = false) (hr2 : r.natAbs = v.natAbs / u + 1) :
    Calls Tryz.prog 30 #[.pointer (some ⟨pn, 0, none⟩), .int .i64 k] w fun e w' =>
      ∃ p, e = .returned (.pointer (some ⟨p, 0, none⟩)) ∧ IntV w' w.heap.size p r ∧ Only [] w w' := by
  obtain ⟨s, hn⟩ := hn
  refine (nearest_tie pn B v.natAbs u k _ s w hn hk hu h1 (.inr hq0) hneg hl hodd hq0 hql hul).mono ?_
  rintro e w' ⟨p, s', rfl, V, O⟩
  exact ⟨p, rfl, ⟨s', by rw [hr1, hr2]; exact V⟩, O⟩
/-- what Step answers at values, in a form that compares by literals -/
theorem step_awake (w : World) : Calls Tryz.prog 11 #[fixedV 1 1 0 0 0 0, stateV 0 0 0 0, .int .i64 3] w fun e w' =>
    e = .returned (.tuple #[.int .i64 2, stateV 3 0 2 0, .bool false]) ∧ Only [] w w' :=
  step_small 1 1 0 0 0 0 0 0 0 0 3 2 w (by decide) (by decide) (by decide +kernel) (fun B ps w1 h => nearV_tie ps B 1 2 3 2 w1 h (.inl rfl) rfl (by decide) (by decide) (by decide) (by decide +kernel) (by decide) (by decide) (by decide) (by decide) (by decide))
theorem step_m2 (y2 : Int) (h : y2 = 0 ∨ y2 = 7) (w : World) : Calls Tryz.prog 11 #[fixedV 1 0 0 0 (-2) 0, stateV 0 0 7 y2, .int .i64 0] w fun e w' =>
    e = .returned (.tuple #[.int .i64 7, stateV 0 0 7 7, .bool false]) ∧ Only [] w w' := by
  rcases h with rfl | rfl <;>
  exact step_small 1 0 0 0 (-2) 0 0 0 7 _ 0 7 w (by decide) (by decide) (by decide +kernel) (fun B ps w1 h => nearV_low ps B 1 2 14 7 w1 h (.inl rfl) rfl (by decide) (by decide) (by decide) (by decide) (by decide) (by decide) (by decide))
theorem step_p2 (y2 : Int) (h : y2 = 0 ∨ y2 = -7) (w : World) : Calls Tryz.prog 11 #[fixedV 1 0 0 0 2 0, stateV 0 0 7 y2, .int .i64 0] w fun e w' =>
    e = .returned (.tuple #[.int .i64 (-7), stateV 0 0 (-7) 7, .bool false]) ∧ Only [] w w' := by
  rcases h with rfl | rfl
  · exact step_small 1 0 0 0 2 0 0 0 7 0 0 (-7) w (by decide) (by decide) (by decide +kernel) (fun B ps w1 h => nearV_low ps B 1 2 (-14) (-7) w1 h (.inl rfl) rfl (by decide) (by decide) (by decide) (by decide) (by decide) (by decide) (by decide))
  · exact step_small 1 0 0 0 2 0 0 0 7 (-7) 0 (-7) w (by decide) (by decide) (by decide +kernel) (fun B ps w1 h => nearV_low ps B 1 2 (-14) (-7) w1 h (.inl rfl) rfl (by decide) (by decide) (by decide) (by decide) (by decide) (by decide) (by decide))
theorem step_n2 (w : World) : Calls Tryz.prog 11 #[fixedV 1 0 0 0 2 0, stateV 0 0 (-7) 7, .int .i64 0] w fun e w' =>
    e = .returned (.tuple #[.int .i64 7, stateV 0 0 7 (-7), .bool false]) ∧ Only [] w w' :=
  step_small 1 0 0 0 2 0 0 0 (-7) 7 0 7 w (by decide) (by decide) (by decide +kernel) (fun B ps w1 h => nearV_low ps B 1 2 14 7 w1 h (.inl rfl) rfl (by decide) (by decide) (by decide) (by decide) (by decide) (by decide) (by decide))
theorem step_far (w : World) : Calls Tryz.prog 11 #[fixedV 31 1099511627776 0 0 0 0, stateV 0 0 0 0, .int .i64 2147483648] w fun e w' =>
    e = .returned (.tuple #[.int .i64 2147483646, stateV 2147483647 0 2147483646 0, .bool false]) ∧ Only [] w w' :=
  step_small 31 1099511627776 0 0 0 0 0 0 0 0 2147483648 2147483646 w (by decide) (by decide) (by decide +kernel) (fun B ps w1 h => nearV_low ps B 31 2147483648 4611686014132420609 2147483646 w1 h (.inr rfl) rfl (by decide) (by decide) (by decide) (by decide) (by decide) (by decide) (by decide))
end Go.Proofs.YtpamkblhdgjlcaaGreatDoor
