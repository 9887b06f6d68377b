/- QuantFixes, the law: it answers true at every argument. -/
import Derived.Test.YtpamkblhdgjlcaaGreatDoorProg
import Derived.Test.YtpamkblhdgjlcaaGreatDoorBase
import Derived.Test.YtpamkblhdgjlcaaGreatDoorAwk
import Derived.Test.YtpamkblhdgjlcaaGreatDoorF4
import Derived.Test.YtpamkblhdgjlcaaGreatDoorRZ
import Derived.WalkKit
import Derived.WalkSpells
import Derived.WalkLawsBesides
import Derived.Handy
import Derived.Deep.QuietTactic
import Derived.BigQuiet
set_option linter.unusedSimpArgs false
set_option linter.unusedVariables false
namespace Go.Proofs.YtpamkblhdgjlcaaGreatDoor
open Go.RowKit Ieee

set_option maxRecDepth 8000 in
set_option maxHeartbeats 4000000 in
theorem law_walk (x ba be : Nat) (n k c e1 e2 : Int) (d : Bool) (w : World)
    (HF : ∀ w, Calls Tryz.prog 6 #[.float .f64 x, .int .i64 k] w fun e w' => e = .returned (.tuple #[.int .i64 c, .bool d, .int .i64 e1]) ∧ Only [] w w')
    (HG : ∀ w, Calls Tryz.prog 7 #[.float .f64 x, .int .i64 k] w fun e w' => e = .returned (.tuple #[.int .i64 c, .bool d, .int .i64 e1]) ∧ Only [] w w')
    (HB : ∀ w, Calls Tryz.prog 8 #[.int .i64 n, .int .i64 k] w fun e w' => e = .returned (.tuple #[.float .f64 ba, .int .i64 e2]) ∧ Only [] w w')
    (HC : ∀ w, Calls Tryz.prog 9 #[.int .i64 n, .int .i64 k] w fun e w' => e = .returned (.tuple #[.float .f64 ba, .int .i64 e2]) ∧ Only [] w w') :
    Calls Tryz.prog 3 #[.int .u64 (x : Int), .int .i64 n, .int .i64 k] w fun e w' => e = .returned (.bool true) ∧ Only [] w w' := by
  have hF := Lib.hid HF
  have hG := Lib.hid HG
  have hB := Lib.hid HB
  have hC := Lib.hid HC
  have hA := Lib.hid (fun w => awake_ w)
  have hf := run_from x
  have hb := run_bits ba
  clear HF HG HB HC
  go_enter Tryz.func3, Tryz.ntmps3
  go_wp2_with first
    | (go_at_call 4; refine (hA.out _).mono ?_; rintro e w1 ⟨rfl, ho⟩; have HO1 := Lib.hid ho; clear ho)
    | (go_at_call 6; refine (hF.out _).mono ?_; rintro e w2 ⟨rfl, ho⟩; have HO2 := Lib.hid (HO1.out.trans ho); clear ho)
    | (go_at_call 7; refine (hG.out _).mono ?_; rintro e w3 ⟨rfl, ho⟩; have HO3 := Lib.hid (HO2.out.trans ho); clear ho)
    | (go_at_call 8; refine (hB.out _).mono ?_; rintro e w4 ⟨rfl, ho⟩; have HO4 := Lib.hid (HO3.out.trans ho); clear ho)
    | (go_at_call 9; refine (hC.out _).mono ?_; rintro e w5 ⟨rfl, ho⟩; have HO5 := Lib.hid (HO4.out.trans ho); clear ho)
  go_ret
  exact ⟨rfl, HO5.out⟩
theorem law_ (x : Nat) (n k : Int) (w : World) (hx : x < 18446744073709551616) (hn1 : -9223372036854775808 ≤ n) (hn2 : n ≤ 9223372036854775807) :
    Calls Tryz.prog 3 #[.int .u64 (x : Int), .int .i64 n, .int .i64 k] w fun e w' => e = .returned (.bool true) ∧ Only [] w w' := by
  by_cases hk : k < 1 ∨ 31 < k
  · exact law_walk x 0 0 n k 0 1 1 false w
      (fun w => (fix_arg x k w hk).mono fun e w' h => ⟨h.1, h.2 ▸ Only.refl [] w⟩)
      (fun w => (docfix_arg x k hk w).mono fun e w' h => ⟨h.1, h.2 ▸ Only.refl [] w⟩)
      (fun w => (back_arg n k w hk).mono fun e w' h => ⟨h.1, h.2 ▸ Only.refl [] w⟩)
      (fun w => (docback_arg n k hk w).mono fun e w' h => ⟨h.1, h.2 ▸ Only.refl [] w⟩)
  · obtain ⟨j, rfl⟩ : ∃ j : Nat, k = (j : Int) := ⟨k.toNat, by omega⟩
    have h1 : 1 ≤ j := by omega
    have h2 : j ≤ 31 := by omega
    by_cases hr : ∃ s m i, double.read x = .number s m i
    · obtain ⟨s, m, i, hr⟩ := hr
      exact law_walk x _ 0 n j _ 0 0 _ w
        (fun w => (fix_num x j s m i hr h1 h2 w).mono fun e w' h => ⟨h.1, h.2 ▸ Only.refl [] w⟩)
        (fun w => docfix_num x j s m i hx hr h1 h2 w)
        (fun w => (back_num n j h1 h2 hn1 hn2 w).mono fun e w' h => ⟨h.1, h.2 ▸ Only.refl [] w⟩)
        (fun w => docback_num n j h1 h2 hn1 hn2 w)
    · have hr' : ∀ s m i, double.read x ≠ .number s m i := fun s m i h => hr ⟨s, m, i, h⟩
      exact law_walk x _ 0 n j 0 5 0 false w
        (fun w => (fix_nan x j w (by omega) (by omega) (fix_infinite x hr')).mono fun e w' h => ⟨h.1, by obtain ⟨n, hn⟩ := h.2; rw [hn]; exact (Only.refl [] w).drewN n⟩)
        (fun w => (docfix_nan x j hx hr' h1 h2 w).mono fun e w' h => ⟨h.1, h.2 ▸ Only.refl [] w⟩)
        (fun w => (back_num n j h1 h2 hn1 hn2 w).mono fun e w' h => ⟨h.1, h.2 ▸ Only.refl [] w⟩)
        (fun w => docback_num n j h1 h2 hn1 hn2 w)
end Go.Proofs.YtpamkblhdgjlcaaGreatDoor
