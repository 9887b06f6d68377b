/- The shift of a natural onto itself by one bit, whatever room it has; what the shifts answer, by what lies in memory. -/
import Derived.Test.YtpamkblhdgjlcaaGreatDoorProg
import Derived.Test.YtpamkblhdgjlcaaGreatDoorBase
import Derived.Test.YtpamkblhdgjlcaaGreatDoorNat2
import Derived.Test.YtpamkblhdgjlcaaGreatDoorNat6
import Derived.Test.YtpamkblhdgjlcaaGreatDoorMem
import Derived.WalkKit
import Derived.WalkSpells
import Derived.WalkLawsBesides
import Derived.Handy
import Derived.Deep.QuietTactic
import Derived.BigQuiet
set_option linter.unusedSimpArgs false
set_option linter.unusedVariables false
namespace Go.Proofs.YtpamkblhdgjlcaaGreatDoor
open Go.RowKit Go.Shelf

set_option maxHeartbeats 1000000 in
theorem lsh_room_1 (a x : Nat) (c1 c2 c3 c4 c5 : Value) (w : World) (hxl : 2 * x < 18446744073709551616) (hx0 : x ≠ 0)
    (h : w.heap[a]? = some (room (x : Int) c1 c2 c3 c4 c5)) :
    Calls Tryz.prog 76 #[.slice (some ⟨a, 0, none⟩) 1 6, .slice (some ⟨a, 0, none⟩) 1 6, .int .u64 1] w fun e w' =>
      e = .returned (.slice (some ⟨a, 0, none⟩) 1 6) ∧ w' = (w.setCell ⟨a, 0, none⟩ (.int .u64 ((2 * x : Nat) : Int))).setCell ⟨a, 1, none⟩ (.int .u64 0) := by
  have hen := lshVU_enters
  have hcl := clear_none
  have hx : w.cell? ⟨a, 0, none⟩ = some (.int .u64 x) := cell_of h 0 rfl
  have hx1 : w.cell? ⟨a, 1, none⟩ = some c1 := cell_of h 1 rfl
  have hf1 := free_of h 1
  have HV := Lib.hid (lshVU_1 a a 6 6 x (.int .u64 x) w hxl hx hx (free_of h 0))
  have hp : (((2 * x : Nat) : Int) == 0) = false := by
    simp only [beq_eq_false_iff_ne, ne_eq]; omega
  have hb : ((w.setCell ⟨a, 0, none⟩ (.int .u64 ((2 * x : Nat) : Int))).setCell ⟨a, 1, none⟩ (.int .u64 0)).heap[a]? = some (room ((2 * x : Nat) : Int) (.int .u64 0) c2 c3 c4 c5) :=
    block_setCell (block_setCell h 0 _) 1 _
  have HN := Lib.hid (norm2_1 a 6 ((2 * x : Nat) : Int) ((w.setCell ⟨a, 0, none⟩ (.int .u64 ((2 * x : Nat) : Int))).setCell ⟨a, 1, none⟩ (.int .u64 0)) (by decide) hp (cell_of hb 0 rfl) (cell_of hb 1 rfl))
  have HM := Lib.hid (make_fit ⟨a, 0, none⟩ 1 6 2 w (by decide))
  clear hxl hx0 hp hb h
  generalize 2 * x = p at HV HN ⊢
  go_enter Tryz.func76, Tryz.ntmps76
  go_wp2_with (first | (go_at_call 65; refine HM.out.mono ?_; rintro e w' ⟨rfl, rfl⟩) | (go_at_call 42; refine HV.out.mono ?_; rintro e w' ⟨rfl, rfl⟩) | (go_at_call 68; refine HN.out.mono ?_; rintro e w' ⟨rfl, rfl⟩))
  go_ret
  exact ⟨rfl, rfl⟩
/-- twice a natural, onto itself -/
theorem natTwice (sx : Value) (x : Nat) (w : World) (hx : NatAt w sx x) (h : 2 * x < 18446744073709551616) (n : Nat) :
    Calls Tryz.prog 76 #[sx, sx, .int .u64 1] (w.drewN n) fun e w' => ∃ o l c, e = .returned (.slice o l c) ∧ Makes w (sb sx) (.slice o l c) (2 * x) w' := by
  cases hx with
  | nil =>
    refine (lsh_nil_nil (w.drewN n)).mono ?_
    rintro e w' ⟨rfl, rfl⟩
    exact ⟨_, _, _, rfl, .nil, by simp [sb], (Only.refl _ w).drewN n⟩
  | @tight a x hb h0 h1 =>
    refine (lsh_self_1 a x (w.drewN n) h h0 (cell_of hb 0 rfl)).mono ?_
    rintro e w' ⟨rfl, rfl⟩
    exact ⟨_, _, _, rfl, ((leaves_roomy (w.drewN n) (2 * x) 0 (by omega) h).makes _).drawn⟩
  | @roomy a x c1 c2 c3 c4 c5 hb h0 h1 =>
    refine (lsh_room_1 a x c1 c2 c3 c4 c5 (w.drewN n) h h0 hb).mono ?_
    rintro e w' ⟨rfl, rfl⟩
    exact ⟨_, _, _, rfl, .roomy (block_setCell (block_setCell hb 0 _) 1 _) (by omega) h, fun b hb => .inl hb, (((Only.refl _ w).drewN n).setCell (.inl (by simp [sb])) _).setCell (.inl (by simp [sb])) _⟩
/-- 2^s -/
theorem natUnit (sx : Value) (w : World) (hx : NatAt w sx 1) (s : Nat) (hs : s = 1 ∨ s = 31) (n : Nat) :
    Calls Tryz.prog 76 #[.slice none 0 0, sx, .int .u64 s] (w.drewN n) fun e w' => ∃ o l c, e = .returned (.slice o l c) ∧ Makes w [] (.slice o l c) (2 ^ s) w' := by
  rcases hx.shape with ⟨_, h1⟩ | ⟨b, c, rfl, hc, h0, _, hxc, _⟩
  · exact absurd h1 (by decide)
  · rcases hs with rfl | rfl
    · refine (lsh_nil_1 b c 1 (w.drewN n) (by decide) (by decide) hc hxc).mono ?_
      rintro e w' ⟨rfl, rfl⟩
      exact ⟨_, _, _, rfl, ((leaves_roomy (w.drewN n) (2 * 1) 0 (by decide) (by decide)).makes _).drawn⟩
    · refine (lsh_nil_31 b c 1 (w.drewN n) (by decide) (by decide) hc hxc).mono ?_
      rintro e w' ⟨rfl, rfl⟩
      exact ⟨_, _, _, rfl, ((leaves_roomy (w.drewN n) (2147483648 * 1) 0 (by decide) (by decide)).makes _).drawn⟩
end Go.Proofs.YtpamkblhdgjlcaaGreatDoor
