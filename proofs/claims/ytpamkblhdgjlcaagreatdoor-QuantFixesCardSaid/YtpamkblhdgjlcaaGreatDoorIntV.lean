/- Ints by value: what math/big's NewInt, Mul and Add answer at the sizes and signs that layer 25 needs. -/
import Derived.Test.YtpamkblhdgjlcaaGreatDoorProg
import Derived.Test.YtpamkblhdgjlcaaGreatDoorBase
import Derived.Test.YtpamkblhdgjlcaaGreatDoorMem
import Derived.Test.YtpamkblhdgjlcaaGreatDoorInt3
set_option linter.unusedSimpArgs false
set_option linter.unusedVariables false
namespace Go.Proofs.YtpamkblhdgjlcaaGreatDoor
open Go.RowKit

/-- an Int of value v in memory, all of whose blocks lie from B on -/
def IntV (w : World) (B p : Nat) (v : Int) : Prop := ∃ s, IntVal w B p (decide (v < 0)) v.natAbs s
theorem IntV.frame {w w' : World} {B p : Nat} {v : Int} (h : IntV w B p v) (ho : Only [] w w') : IntV w' B p v := by
  obtain ⟨s, h⟩ := h
  exact ⟨s, h.only ho (by simp) (by simp)⟩
/-- it stands where what is written lies above all that there was -/
theorem IntV.below {w w' : World} {B p : Nat} {v : Int} (h : IntV w B p v) (ho : Below w.heap.size w w') : IntV w' B p v := h.frame (Only.of_below ho [])
theorem newIntV (v : Int) (hl : v.natAbs < 18446744073709551616) (w : World) :
    Calls Tryz.prog 28 #[.int .i64 v] w fun e w' => ∃ p, e = .returned (.pointer (some ⟨p, 0, none⟩)) ∧ IntV w' w.heap.size p v ∧ Only [] w w' := by
  have hv : (if decide (v < 0) then -(v.natAbs : Int) else (v.natAbs : Int)) = v := by
    by_cases h : v < 0
    · simp only [h, decide_true, if_true]; omega
    · simp only [h, decide_false]; simp; omega
  have h := newInt (decide (v < 0)) v.natAbs (fun h0 => decide_eq_false (by omega)) hl w
  rw [hv] at h
  refine h.mono ?_
  rintro e w' ⟨p, s, rfl, V, O⟩
  exact ⟨p, rfl, ⟨s, V⟩, O⟩
theorem intMulV (pz px py B1 B2 : Nat) (a b : Int) (w : World) (hz : w.heap[pz]? = some (iob false (.slice none 0 0))) (hx : IntV w B1 px a) (hy : IntV w B2 py b) (hne : px ≠ py) (hzx : pz ≠ px) (hzy : pz ≠ py) (h : (a * b).natAbs < 18446744073709551616) :
    Calls Tryz.prog 27 #[.pointer (some ⟨pz, 0, none⟩), .pointer (some ⟨px, 0, none⟩), .pointer (some ⟨py, 0, none⟩)] w fun e w' =>
      e = .returned (.pointer (some ⟨pz, 0, none⟩)) ∧ (∃ s, IntVal w' pz pz (decide (a * b < 0)) (a * b).natAbs s ∧ (∀ b ∈ sb s, w.heap.size ≤ b)) ∧ Only [pz] w w' := by
  obtain ⟨sx, hx⟩ := hx
  obtain ⟨sy, hy⟩ := hy
  rw [Int.natAbs_mul] at h ⊢
  have hs : ((decide (a < 0) != decide (b < 0)) && decide (a.natAbs * b.natAbs ≠ 0)) = decide (a * b < 0) := by
    rcases Int.lt_trichotomy a 0 with ha | ha | ha <;> rcases Int.lt_trichotomy b 0 with hb | hb | hb
    · have := Int.mul_pos_of_neg_of_neg ha hb
      simp [ha, hb, Int.not_lt.2 (Int.le_of_lt this)]
    · subst hb; simp
    · have := Int.mul_neg_of_neg_of_pos ha hb
      simp [ha, this, Int.not_lt.2 (Int.le_of_lt hb)]; exact Nat.mul_ne_zero (by omega) (by omega)
    · subst ha; simp
    · subst ha; simp
    · subst ha; simp
    · have := Int.mul_neg_of_pos_of_neg ha hb
      simp [hb, this, Int.not_lt.2 (Int.le_of_lt ha)]; exact Nat.mul_ne_zero (by omega) (by omega)
    · subst hb; simp
    · have := Int.mul_pos ha hb
      simp [Int.not_lt.2 (Int.le_of_lt ha), Int.not_lt.2 (Int.le_of_lt hb), Int.not_lt.2 (Int.le_of_lt this)]
  refine (intMul pz px py B1 B2 _ _ sx sy _ _ w hz hx hy hne hzx hzy h).mono ?_
  rintro e w' ⟨rfl, s, V, hl, O⟩
  rw [hs] at V
  exact ⟨rfl, ⟨s, V, hl⟩, O⟩
/-- a sum onto the first; what it writes lies from B on -/
theorem intAddV (ps py B B2 : Nat) (a b : Int) (w : World) (hx : IntV w B ps a) (hy : IntV w B2 py b) (hs : (0 ≤ a ∧ 0 ≤ b) ∨ (a ≤ 0 ∧ b ≤ 0)) (h : (a + b).natAbs < 18446744073709551616) (hB : B ≤ w.heap.size) :
    Calls Tryz.prog 26 #[.pointer (some ⟨ps, 0, none⟩), .pointer (some ⟨ps, 0, none⟩), .pointer (some ⟨py, 0, none⟩)] w fun e w' =>
      e = .returned (.pointer (some ⟨ps, 0, none⟩)) ∧ IntV w' B ps (a + b) ∧ Below B w w' := by
  obtain ⟨sx, hx⟩ := hx
  obtain ⟨sy, hy⟩ := hy
  have hn : (a + b).natAbs = a.natAbs + b.natAbs := by omega
  have hg : (decide (a < 0) || decide (b < 0)) = decide (a + b < 0) := by
    by_cases h1 : a < 0 <;> by_cases h2 : b < 0 <;> by_cases h3 : a + b < 0 <;> simp [h1, h2, h3] <;> omega
  rw [hn] at h
  refine (intAdd ps py B B2 _ _ sx sy _ _ w hx hy ?_ h hB).mono ?_
  · rcases hs with ⟨h1, h2⟩ | ⟨h1, h2⟩
    · exact .inl (by rw [decide_eq_false (by omega), decide_eq_false (by omega)])
    · by_cases h3 : a = 0
      · exact .inr (.inl (by omega))
      · by_cases h4 : b = 0
        · exact .inr (.inr (by omega))
        · exact .inl (by rw [decide_eq_true (by omega), decide_eq_true (by omega)])
  · rintro e w' ⟨rfl, s, V, _, O⟩
    rw [hg, ← hn] at V
    exact ⟨rfl, ⟨s, V⟩, O.toBelow (fun t ht => by
      rcases List.mem_cons.1 ht with rfl | ht
      · exact hx.low
      · exact hx.lows t ht) hB⟩
end Go.Proofs.YtpamkblhdgjlcaaGreatDoor
