/- Walk of the quantiser's clipped. -/
import Derived.Test.YtpamkblhdgjlcaaGreatDoorProg
import Derived.Test.YtpamkblhdgjlcaaGreatDoorBase
import Derived.Test.YtpamkblhdgjlcaaGreatDoorMem
import Derived.Test.YtpamkblhdgjlcaaGreatDoorInt1
import Derived.Test.YtpamkblhdgjlcaaGreatDoorInt3
import Derived.Test.YtpamkblhdgjlcaaGreatDoorInt5
import Derived.Test.YtpamkblhdgjlcaaGreatDoorQ1
import Derived.WalkKit
import Derived.WalkSpells
import Derived.WalkLawsBesides
import Derived.Handy
import Derived.Deep.QuietTactic
import Derived.BigQuiet
set_option linter.unusedSimpArgs false
set_option linter.unusedVariables false
namespace Go.Proofs.YtpamkblhdgjlcaaGreatDoor
open Go.RowKit

def valI (neg : Bool) (x : Nat) : Int := if neg then -(x : Int) else (x : Int)
theorem newIntLow (w : World) : Calls Tryz.prog 28 #[.int .i64 (-2147483648)] w fun e w' => ∃ p s, e = .returned (.pointer (some ⟨p, 0, none⟩)) ∧ IntVal w' w.heap.size p true 2147483648 s ∧ Only [] w w' :=
  newInt true 2147483648 (by decide) (by decide) w
theorem newIntHigh (w : World) : Calls Tryz.prog 28 #[.int .i64 2147483647] w fun e w' => ∃ p s, e = .returned (.pointer (some ⟨p, 0, none⟩)) ∧ IntVal w' w.heap.size p false 2147483647 s ∧ Only [] w w' :=
  newInt false 2147483647 (by decide) (by decide) w
theorem newIntOne (w : World) : Calls Tryz.prog 28 #[.int .i64 1] w fun e w' => ∃ p s, e = .returned (.pointer (some ⟨p, 0, none⟩)) ∧ IntVal w' w.heap.size p false 1 s ∧ Only [] w w' :=
  newInt false 1 (by decide) (by decide) w
def cmpV (a b : Int) : Int := if a < b then -1 else if b < a then 1 else 0
/-- comparing two Ints -/
theorem icmp (px py B1 B2 : Nat) (nx ny : Bool) (sx sy : Value) (x y : Nat) (w : World) (hx : IntVal w B1 px nx x sx) (hy : IntVal w B2 py ny y sy) (hne : px ≠ py) :
    Calls Tryz.prog 50 #[.pointer (some ⟨px, 0, none⟩), .pointer (some ⟨py, 0, none⟩)] w fun e w' =>
      e = .returned (.int .i64 (cmpV (valI nx x) (valI ny y))) ∧ ∃ n, w' = w.drewN n := by
  by_cases h : nx = ny
  · subst h
    refine (icmp_same px py nx sx sy x y w hx.cell hy.cell hx.nat hy.nat hne).mono ?_
    rintro e w' ⟨rfl, n, rfl⟩
    refine ⟨ret_int ?_, n, rfl⟩
    cases nx
    · rfl
    · simp only [valI, if_true, cmpI, cmpV]
      rcases Int.lt_trichotomy (x : Int) y with h | h | h
      · have h1 : ¬ (y : Int) < x := by omega
        have h2 : ¬ -(x : Int) < -(y : Int) := by omega
        have h3 : -(y : Int) < -(x : Int) := by omega
        simp only [h, h1, h2, h3, if_true, if_false]
      · have h1 : ¬ (y : Int) < x := by omega
        have h1' : ¬ (x : Int) < y := by omega
        have h2 : ¬ -(x : Int) < -(y : Int) := by omega
        have h3 : ¬ -(y : Int) < -(x : Int) := by omega
        simp only [h1, h1', h2, h3, if_true, if_false]
      · have h1 : (y : Int) < x := by omega
        have h2 : -(x : Int) < -(y : Int) := by omega
        simp only [h1, h2, if_true, if_false]
  · refine (icmp_other px py nx ny sx sy w hx.cell hy.cell (by cases nx <;> cases ny <;> simp_all) hne).mono ?_
    rintro e w' ⟨rfl, n, rfl⟩
    refine ⟨ret_int ?_, n, rfl⟩
    cases nx <;> cases ny
    · exact absurd rfl h
    · have hy0 : y ≠ 0 := fun h' => by simpa using hy.sign h'
      have h1 : ¬ (x : Int) < -(y : Int) := by omega
      have h2 : -(y : Int) < (x : Int) := by omega
      simp [valI, cmpV, h1, h2]
    · have hx0 : x ≠ 0 := fun h' => by simpa using hx.sign h'
      have h1 : -(x : Int) < (y : Int) := by omega
      simp [valI, cmpV, h1]
    · exact absurd rfl h
theorem IntVal.drewN {w : World} {B p : Nat} {neg : Bool} {x : Nat} {s : Value} (h : IntVal w B p neg x s) (n : Nat) : IntVal (w.drewN n) B p neg x s := ⟨h.cell, h.nat.drewN n, h.low, h.lows, h.sign⟩
theorem IntVal.fresh {w w' : World} {B p : Nat} {neg : Bool} {x : Nat} {s : Value} (h : IntVal w B p neg x s) (ho : Only [] w w') : IntVal w' B p neg x s := h.only ho (by simp) (by simp)
set_option maxHeartbeats 2000000 in
theorem clipped_ (pn B x : Nat) (neg : Bool) (s : Value) (w : World) (hn : IntVal w B pn neg x s) :
    Calls Tryz.prog 29 #[.pointer (some ⟨pn, 0, none⟩)] w fun e w' =>
      e = .returned (.tuple #[.int .i64 (keptI (valI neg x)), .bool (keptI (valI neg x) != valI neg x)]) ∧ Only [] w w' := by
  have hpn := hn.size
  by_cases h1 : valI neg x < -2147483648
  · have e1 : cmpV (valI neg x) (valI true 2147483648) = -1 := by
      have : valI true 2147483648 = -2147483648 := rfl
      rw [this]; simp [cmpV, h1]
    have hk : keptI (valI neg x) = -2147483648 := by simp [keptI, h1]
    have hb : (-2147483648 != valI neg x) = true := by simp only [bne_iff_ne, ne_eq]; omega
    rw [hk, hb]
    clear hk hb h1
    go_enter Tryz.func29, Tryz.ntmps29
    go_wp2_with fail
    refine (newIntLow _).mono ?_
    rintro e w1 ⟨p1, s1, rfl, V1, O1⟩
    go_wp2_with fail
    refine (icmp pn p1 B _ neg true s s1 x 2147483648 w1 (hn.fresh O1) V1 (by have := V1.low; omega)).mono ?_
    rintro e w2 ⟨rfl, n2, rfl⟩
    rw [e1]
    go_wp2_with fail
    go_ret2
    exact ⟨rfl, O1.drewN _⟩
  have e1 : cmpV (valI neg x) (valI true 2147483648) = 0 ∨ cmpV (valI neg x) (valI true 2147483648) = 1 := by
    have : valI true 2147483648 = -2147483648 := rfl
    rw [this]; simp only [cmpV, h1, if_false]; split <;> simp
  have f1 : decide (cmpV (valI neg x) (valI true 2147483648) < 0) = false := by rcases e1 with e | e <;> rw [e] <;> rfl
  by_cases h2 : 2147483647 < valI neg x
  · have e2 : cmpV (valI neg x) (valI false 2147483647) = 1 := by
      have : valI false 2147483647 = 2147483647 := rfl
      have h3 : ¬ valI neg x < 2147483647 := by omega
      rw [this]; simp [cmpV, h2, h3]
    have hk : keptI (valI neg x) = 2147483647 := by simp [keptI, h1, h2]
    have hb : (2147483647 != valI neg x) = true := by simp only [bne_iff_ne, ne_eq]; omega
    rw [hk, hb]
    clear hk hb h1 h2 e1
    go_enter Tryz.func29, Tryz.ntmps29
    go_wp2_with fail
    refine (newIntLow _).mono ?_
    rintro e w1 ⟨p1, s1, rfl, V1, O1⟩
    go_wp2_with fail
    refine (icmp pn p1 B _ neg true s s1 x 2147483648 w1 (hn.fresh O1) V1 (by have := V1.low; omega)).mono ?_
    rintro e w2 ⟨rfl, n2, rfl⟩
    generalize cmpV (valI neg x) (valI true 2147483648) = c1 at f1 ⊢
    go_wp2_with fail
    refine (newIntHigh _).mono ?_
    rintro e w3 ⟨p3, s3, rfl, V3, O3⟩
    go_wp2_with fail
    refine (icmp pn p3 B _ neg false s s3 x 2147483647 w3 (((hn.fresh O1).drewN n2).fresh O3) V3 (by have := V3.low; have := O1.size; simp at *; omega)).mono ?_
    rintro e w4 ⟨rfl, n4, rfl⟩
    rw [e2]
    go_wp2_with fail
    go_ret2
    exact ⟨rfl, ((O1.drewN _).trans O3).drewN _⟩
  · have e2 : cmpV (valI neg x) (valI false 2147483647) = 0 ∨ cmpV (valI neg x) (valI false 2147483647) = -1 := by
      have : valI false 2147483647 = 2147483647 := rfl
      rw [this]; simp only [cmpV, h2, if_false]; split <;> simp
    have f2 : decide (0 < cmpV (valI neg x) (valI false 2147483647)) = false := by rcases e2 with e | e <;> rw [e] <;> rfl
    have hk : keptI (valI neg x) = valI neg x := by simp [keptI, h1, h2]
    have hb : (valI neg x != valI neg x) = false := by simp
    have hl : x ≤ 9223372036854775807 := by
      cases neg <;> simp only [valI, if_true, if_false] at h1 h2 <;> simp at h1 h2 <;> omega
    rw [hk, hb]
    clear hk hb h1 h2 e1 e2
    go_enter Tryz.func29, Tryz.ntmps29
    go_wp2_with fail
    refine (newIntLow _).mono ?_
    rintro e w1 ⟨p1, s1, rfl, V1, O1⟩
    go_wp2_with fail
    refine (icmp pn p1 B _ neg true s s1 x 2147483648 w1 (hn.fresh O1) V1 (by have := V1.low; omega)).mono ?_
    rintro e w2 ⟨rfl, n2, rfl⟩
    generalize cmpV (valI neg x) (valI true 2147483648) = c1 at f1 ⊢
    go_wp2_with fail
    refine (newIntHigh _).mono ?_
    rintro e w3 ⟨p3, s3, rfl, V3, O3⟩
    go_wp2_with fail
    have hn3 := ((hn.fresh O1).drewN n2).fresh O3
    refine (icmp pn p3 B _ neg false s s3 x 2147483647 w3 hn3 V3 (by have := V3.low; have := O1.size; simp at *; omega)).mono ?_
    rintro e w4 ⟨rfl, n4, rfl⟩
    generalize cmpV (valI neg x) (valI false 2147483647) = c2 at f2 ⊢
    go_wp2_with fail
    have HI : Calls Tryz.prog 51 #[.pointer (some ⟨pn, 0, none⟩)] (w3.drewN n4) fun e w' => e = .returned (.int .i64 (valI neg x)) ∧ w3.drewN n4 = w' := iint64 pn x neg s _ (hn3.drewN n4).cell (hn3.drewN n4).nat hl
    refine HI.mono ?_
    rintro e w5 ⟨rfl, rfl⟩
    go_wp2_with fail
    go_ret2
    exact ⟨rfl, ((O1.drewN _).trans O3).drewN _⟩
end Go.Proofs.YtpamkblhdgjlcaaGreatDoor
