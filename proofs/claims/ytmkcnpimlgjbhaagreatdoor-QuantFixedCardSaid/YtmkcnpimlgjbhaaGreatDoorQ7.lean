/- The quantiser's Step where the count of bits is out of reach, and at the greatest sum that there is. -/
import Derived.Test.YtmkcnpimlgjbhaaGreatDoorProg
import Derived.Test.YtmkcnpimlgjbhaaGreatDoorBase
import Derived.Test.YtmkcnpimlgjbhaaGreatDoorMem
import Derived.Test.YtmkcnpimlgjbhaaGreatDoorInt2
import Derived.Test.YtmkcnpimlgjbhaaGreatDoorInt3
import Derived.Test.YtmkcnpimlgjbhaaGreatDoorInt7
import Derived.Test.YtmkcnpimlgjbhaaGreatDoorIntV
import Derived.Test.YtmkcnpimlgjbhaaGreatDoorQ1
import Derived.Test.YtmkcnpimlgjbhaaGreatDoorQ4
import Derived.Test.YtmkcnpimlgjbhaaGreatDoorQ5
import Derived.Test.YtmkcnpimlgjbhaaGreatDoorQ6
import Derived.WalkKit
import Derived.WalkSpells
import Derived.WalkLawsBesides
import Derived.Handy
set_option linter.unusedSimpArgs false
set_option linter.unusedVariables false
namespace Go.Proofs.YtmkcnpimlgjbhaaGreatDoor
open Go.RowKit

set_option maxHeartbeats 1000000 in
theorem step_32 (w : World) : Calls Tryz.prog 12 #[fixedV 32 5 0 0 0 0, stateV 3 0 0 0, .int .i64 4] w fun e w' =>
    e = .returned (.tuple #[.int .i64 0, stateV 0 0 0 0, .bool false]) ∧ Only [] w w' := by
  unfold fixedV stateV
  go_enter Tryz.func12, Tryz.ntmps12
  go_wp2_with (go_at_call 13; refine (right_no 32 (by decide) _).mono ?_; rintro e w' ⟨rfl, rfl⟩)
  refine bodyPost_ret (v := .tuple #[.int .i64 0, .agg #[.int .i64 0, .int .i64 0, .int .i64 0, .int .i64 0], .bool false]) (by simp [results, Tryz.results12, go_sem]) rfl ⟨rfl, ?_⟩
  exact (((Only.refl [] w).alloc _).alloc _).alloc _
/-- two numbers above nothing: the sum has room -/
theorem addRoom (ps py B T B2 x y : Nat) (sx : Value) (w : World) (hx : IntVal w B ps false x sx) (hT : ps < T) (hs : ∀ b ∈ sb sx, b < T) (hy : IntV w B2 py (y : Int)) (hx0 : x ≠ 0) (hy0 : y ≠ 0) (h : x + y < 18446744073709551616) (hB : B ≤ w.heap.size) :
    Calls Tryz.prog 22 #[.pointer (some ⟨ps, 0, none⟩), .pointer (some ⟨ps, 0, none⟩), .pointer (some ⟨py, 0, none⟩)] w fun e w' =>
      e = .returned (.pointer (some ⟨ps, 0, none⟩)) ∧ (∃ a, IntVal w' B ps false (x + y) (.slice (some ⟨a, 0, none⟩) 1 6) ∧ ps < w'.heap.size ∧ a < w'.heap.size) ∧ ∃ S, Only S w w' ∧ ∀ s ∈ S, B ≤ s ∧ s < T := by
  obtain ⟨sy, hy⟩ := hy
  have e1 : decide ((y : Int) < 0) = false := decide_eq_false (by omega)
  rw [e1, Int.natAbs_natCast] at hy
  refine (iadd_same6 ps py false sx sy x y w hx.cell hy.cell hx.nat hy.nat h hx0 hy0).mono ?_
  rintro e w' ⟨rfl, a, hb, ho, hn, hl⟩
  have hal : a < w'.heap.size := hn.lt a (by simp [sb])
  refine ⟨rfl, ⟨a, ⟨hb, hn, hx.low, ?_, fun _ => rfl⟩, lt_of_block hb, hal⟩, _, ho, fun t ht => ?_⟩
  · simp only [sb, List.mem_singleton, forall_eq]
    rcases hl with h' | h'
    · exact hx.lows a h'
    · omega
  · rcases List.mem_cons.1 ht with rfl | ht
    · exact ⟨hx.low, hT⟩
    · exact ⟨hx.lows t ht, hs t ht⟩
/-- the sum after k products -/
def bigSum : Nat → Nat
  | 0 => 0
  | 1 => 4611686018427387904
  | 2 => 9223372036854775808
  | 3 => 13835058055282163712
  | _ => 18446744071562067968
def bigProd (k : Nat) : Nat := if k < 3 then 4611686018427387904 else 4611686016279904256
def BigAt (ps k T : Nat) (w : World) : Prop :=
  (k = 0 ∧ IntB w ps T ps 0) ∨ (1 ≤ k ∧ k ≤ 4 ∧ ∃ s, IntVal w ps ps false (bigSum k) s ∧ ps < T ∧ (∀ b ∈ sb s, b < T) ∧ (2 ≤ k → ∃ a, s = .slice (some ⟨a, 0, none⟩) 1 6)) ∨
    (k = 5 ∧ ∃ a c2 c3 c4 c5, w.heap[ps]? = some (iob false (.slice (some ⟨a, 0, none⟩) 2 6)) ∧ w.heap[a]? = some (room 4611686014132420608 (.int .u64 1) c2 c3 c4 c5) ∧ ps < T ∧ a < T)
theorem big_prod (k : Nat) (hk : k < 5) : stepA (-2147483648) (-2147483648) (-2147483648) 2147483647 2147483647 k * stepB (-2147483648) (-2147483648) (-2147483648) (-2147483648) (-2147483648) k = (bigProd k : Int) := by
  have hk' : k = 0 ∨ k = 1 ∨ k = 2 ∨ k = 3 ∨ k = 4 := by omega
  rcases hk' with rfl | rfl | rfl | rfl | rfl <;> decide +kernel
theorem step_big (w : World) : Calls Tryz.prog 12 #[fixedV 31 (-2147483648) (-2147483648) (-2147483648) 2147483647 2147483647, stateV (-2147483648) (-2147483648) (-2147483648) (-2147483648), .int .i64 (-2147483648)] w fun e w' =>
    e = .returned (.tuple #[.int .i64 2147483647, stateV (-2147483648) (-2147483648) 2147483647 (-2147483648), .bool true]) ∧ Only [] w w' := by
  refine step_walk 31 _ _ _ _ _ _ _ _ _ _ 10737418238 w (by decide) (by decide) (fun k T w' => BigAt (w.heap.size + 1 + 1 + 1) k T w' ∧ T ≤ w'.heap.size ∧ w.heap.size + 1 + 1 + 1 < T) ?_ ?_ ?_ ?_
  · intro w' h
    exact ⟨.inl ⟨rfl, ⟨_, ⟨h, .nil, Nat.le_refl _, by simp [sb], fun _ => rfl⟩, by omega, by simp [sb]⟩⟩, by have := lt_of_block h; omega, by omega⟩
  · rintro k T w1 w2 ⟨h, h3, h4⟩ hT ho
    refine ⟨?_, Nat.le_trans h3 ho.size, h4⟩
    rcases h with ⟨rfl, h⟩ | ⟨h1, h2, s, h, hs, hb, ha⟩ | ⟨rfl, a, c2, c3, c4, c5, hp, ha, hs, hb⟩
    · exact .inl ⟨rfl, h.frame ho⟩
    · exact .inr (.inl ⟨h1, h2, s, h.only ho (by simp) (by simp), hs, hb, ha⟩)
    · exact .inr (.inr ⟨rfl, a, c2, c3, c4, c5, ho.at hp (by simp), ho.at ha (by simp), hs, hb⟩)
  · rintro k T w1 py B2 hk ⟨h, h3, h4⟩ hT hy _
    rw [big_prod k hk] at hy
    generalize hps : w.heap.size + 1 + 1 + 1 = ps at *
    rcases h with ⟨rfl, h⟩ | ⟨h1, h2, s, h, hs, hb, ha⟩ | ⟨rfl, _⟩
    · refine (intAddB ps py ps T B2 0 (bigProd 0) w1 h hy (by decide) (by decide) (by omega)).mono ?_
      rintro e w' ⟨rfl, ⟨s, V, h5, h6⟩, S, O, hS⟩
      exact ⟨rfl, ⟨.inr (.inl ⟨by decide, by decide, s, V, h5, h6, fun h => absurd h (by decide)⟩), Nat.le_refl _, by have := O.size; omega⟩, S, O, hS⟩
    · by_cases h4' : k = 4
      · subst h4'
        obtain ⟨a, rfl⟩ := ha (by decide)
        obtain ⟨sy, hy⟩ := hy
        have e1 : decide ((bigProd 4 : Int) < 0) = false := by decide
        have e2 : (bigProd 4 : Int).natAbs = bigProd 4 := by decide
        rw [e1, e2] at hy
        obtain ⟨c1, c2, c3, c4, c5, hra⟩ : ∃ c1 c2 c3 c4 c5, w1.heap[a]? = some (room ((bigSum 4 : Nat) : Int) c1 c2 c3 c4 c5) := by
          have hn := h.nat
          generalize bigSum 4 = v at hn ⊢
          cases hn with
          | roomy h' _ _ => exact ⟨_, _, _, _, _, h'⟩
        refine (iadd_carry ps py a sy (bigSum 4) (bigProd 4) c1 c2 c3 c4 c5 w1 h.cell hy.cell hra hy.nat (by decide) (by decide)).mono ?_
        rintro e w' ⟨rfl, hp', ha', O⟩
        have e3 : lo64 ((bigSum 4 : Int) + (bigProd 4 : Int)) = 4611686014132420608 := by decide +kernel
        have e4 : hi64 ((bigSum 4 : Int) + (bigProd 4 : Int)) = 1 := by decide +kernel
        rw [e3, e4] at ha'
        refine ⟨rfl, ⟨.inr (.inr ⟨rfl, a, c2, c3, c4, c5, hp', ha', lt_of_block hp', lt_of_block ha'⟩), Nat.le_refl _, by have := O.size; omega⟩, _, O, fun t ht => ?_⟩
        have hal := h.lows a (by simp [sb])
        have hab := hb a (by simp [sb])
        simp only [List.mem_cons, List.not_mem_nil, or_false] at ht
        rcases ht with rfl | rfl
        · exact ⟨Nat.le_refl _, hs⟩
        · exact ⟨hal, hab⟩
      · have hv : bigSum k ≠ 0 ∧ bigProd k ≠ 0 ∧ bigSum k + bigProd k < 18446744073709551616 ∧ bigSum k + bigProd k = bigSum (k + 1) := by
          have hk' : k = 1 ∨ k = 2 ∨ k = 3 := by omega
          rcases hk' with rfl | rfl | rfl <;> decide
        refine (addRoom ps py ps T B2 (bigSum k) (bigProd k) s w1 h hs hb hy hv.1 hv.2.1 hv.2.2.1 (by omega)).mono ?_
        rintro e w' ⟨rfl, ⟨a, V, h5, h6⟩, S, O, hS⟩
        rw [hv.2.2.2] at V
        exact ⟨rfl, ⟨.inr (.inl ⟨by omega, by omega, _, V, h5, by simpa [sb] using h6, fun _ => ⟨a, rfl⟩⟩), Nat.le_refl _, by have := O.size; omega⟩, S, O, hS⟩
    · omega
  · rintro T w1 ⟨h, _, _⟩
    rcases h with ⟨h, _⟩ | ⟨_, h, _⟩ | ⟨_, a, c2, c3, c4, c5, hp, ha, _, _⟩
    · cases h
    · omega
    · exact nearest_big _ a 31 c2 c3 c4 c5 w1 hp ha (.inr rfl) rfl
end Go.Proofs.YtmkcnpimlgjbhaaGreatDoor
