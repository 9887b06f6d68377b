/- Walks of the quantiser's finite and Fix, by the floats' bits. -/
import Derived.Test.YtpamkblhdgjlcaaGreatDoorProg
import Derived.Test.YtpamkblhdgjlcaaGreatDoorBase
import Derived.Test.YtpamkblhdgjlcaaGreatDoorQ1
import Derived.WalkKit
import Derived.WalkSpells
import Derived.WalkLawsBesides
import Derived.Handy
import Derived.Deep.QuietTactic
import Derived.BigQuiet
import Derived.Laws.Externs
import Derived.Laws.FloatArith
set_option linter.unusedSimpArgs false
set_option linter.unusedVariables false
namespace Go.Proofs.YtpamkblhdgjlcaaGreatDoor
open Go.RowKit

/-- the NaN that the tape gives -/
def nanOf (x y : Nat) (w : World) : Nat := (Question.nanBits .f64 x y).cut (w.tape w.drawn (.nanBits .f64 x y))
theorem nan_order (x y z : Nat) (w : World) : FloatKind.f64.format.order (nanOf x y w) z = none := by
  have h : ∃ s r, r < 4503599627370495 ∧ s < 2 ∧ nanOf x y w = s * 9223372036854775808 + 9218868437227405312 + 1 + r := by
    refine ⟨w.tape w.drawn (.nanBits .f64 x y) % 2, (w.tape w.drawn (.nanBits .f64 x y) / 2) % 4503599627370495, Nat.mod_lt _ (by decide), Nat.mod_lt _ (by decide), ?_⟩
    rfl
  obtain ⟨s, r, hr, hs, h⟩ := h
  have hd : FloatKind.f64.format.read (nanOf x y w) = .nan (nanOf x y w / FloatKind.f64.format.signWeight % 2 == 1) (nanOf x y w % FloatKind.f64.format.signWeight - FloatKind.f64.format.infRung) := by
    unfold Ieee.Format.read
    have e1 : FloatKind.f64.format.signWeight = 9223372036854775808 := by decide +kernel
    have e2 : FloatKind.f64.format.binade = 4503599627370496 := by decide +kernel
    have e3 : FloatKind.f64.format.infRung = 9218868437227405312 := by decide +kernel
    simp only [e1, e2, e3]
    rw [if_neg (by omega), if_neg (by omega), if_neg (by omega)]
  unfold Ieee.Format.order
  rw [hd]
  rfl
theorem run_sub_none (x y : Nat) (h : floatBits .sub .f64 x y = none) (w : World) : (binOp .sub 24 (.float .f64 x) (.float .f64 y)).run Tryz.prog w = .ok (.float .f64 (nanOf x y w)) w.drew := by
  unfold floatBits at h
  simp only at h
  simp [binOp, Op.floatArith, h, nanOf, Question.forced]
set_option maxHeartbeats 400000 in
theorem finite_yes (x : Nat) (h : floatBits .sub .f64 x x = some 0) (w : World) : Calls Tryz.prog 13 #[.float .f64 x] w fun e w' => e = .returned (.bool true) ∧ w = w' := by
  have ha := fun w => run_float_arith (P := Tryz.prog) w .sub 24 .f64 x x 0 h
  have ho : (FloatKind.f64.format.order 0 0 == some .eq) = true := by decide +kernel
  clear h
  go_enter Tryz.func13, Tryz.ntmps13
  go_wp2_with fail
  go_ret
  exact ⟨rfl, rfl⟩
set_option maxHeartbeats 400000 in
theorem finite_no (x : Nat) (h : floatBits .sub .f64 x x = none) (w : World) : Calls Tryz.prog 13 #[.float .f64 x] w fun e w' => e = .returned (.bool false) ∧ ∃ n, w' = w.drewN n := by
  have ha := run_sub_none x x h
  have ho := fun w => nan_order x x 0 w
  clear h
  go_enter Tryz.func13, Tryz.ntmps13
  go_wp2_with fail
  go_ret
  exact ⟨rfl, 1, rfl⟩
/-- what RoundToEven gives of a number -/
def evenBits (p : Nat) : Option Nat :=
  match FloatKind.f64.decode p with
  | .nan _ _ => none
  | d => some (FloatKind.f64.encode (d.integral .even))
theorem even_arms (p : Nat) : ∃ A, Extern.MathFloor.toIntegral "math.RoundToEven" .even #[.float .f64 p] = Extern.MathFloor.toIntegral.match_1 (fun _ => Sem Value) (FloatKind.f64.decode p) A (fun d => pure (.float .f64 (FloatKind.f64.encode (d.integral .even)))) := ⟨_, rfl⟩
theorem run_even (p q : Nat) (h : evenBits p = some q) (w : World) : (callFunc 15 #[.float .f64 p]).run Tryz.prog w = .ok (.value (.float .f64 q)) w := by
  rw [run_callFunc_extern Tryz.func15 (by kernel_rfl) (by kernel_rfl) (by kernel_rfl) (e := Extern.MathFloor.toIntegral "math.RoundToEven" .even) (by kernel_rfl)]
  obtain ⟨A, hA⟩ := even_arms p
  rw [hA]
  unfold evenBits at h
  cases hd : FloatKind.f64.decode p with
  | nan s t => rw [hd] at h; cases h
  | infinity s => rw [hd] at h; cases h; rfl
  | number s m i => rw [hd] at h; cases h; rfl
set_option maxHeartbeats 1000000 in
theorem fix_mid (x k p q : Nat) (n : Int) (w : World) (h1 : 1 ≤ k) (h2 : k ≤ 31) (hf : floatBits .sub .f64 x x = some 0)
    (hA : (FloatKind.f64.format.order x 4751297606875873280 == some .gt || FloatKind.f64.format.order x 4751297606875873280 == some .eq) = false)
    (hB : (FloatKind.f64.format.order x 13974669643730649088 == some .lt || FloatKind.f64.format.order x 13974669643730649088 == some .eq) = false)
    (hp : floatBits .mul .f64 x (floatOfInt .f64 (2 ^ k)) = some p) (hq : evenBits p = some q) (hn : floatToIntVal .f64 q .i64 = some n) :
    Calls Tryz.prog 6 #[.float .f64 x, .int .i64 k] w fun e w' => e = .returned (.tuple #[.int .i64 (keptI n), .bool (keptI n != n), .int .i64 0]) ∧ w = w' := by
  have HR := Lib.hid (fun w => right_yes k (by omega) (by omega) w)
  have HF := Lib.hid (fun w => finite_yes x hf w)
  have HW := Lib.hid (fun w => within_ n w)
  have hw : wrap64 (2 ^ k) = 2 ^ k := by
    have h3 : ((2 ^ k : Nat) : Int) ≤ ((2 ^ 31 : Nat) : Int) := Int.ofNat_le.2 (Nat.pow_le_pow_right (by decide) h2)
    rw [Int.natCast_pow, Int.natCast_pow] at h3
    have h5 : ((2 : Nat) : Int) ^ k = 2 ^ k := rfl
    have h6 : ((2 : Nat) : Int) ^ 31 = 2147483648 := rfl
    rw [h5, h6] at h3
    have h4 : (0 : Int) < 2 ^ k := Int.pow_pos (by decide)
    unfold wrap64
    omega
  have hm : ∀ w, (binOp .mul 24 (.float .f64 x) (.float .f64 (floatOfInt .f64 (wrap64 (2 ^ k))))).run Tryz.prog w = .ok (.float .f64 p) w := fun w => by
    rw [hw]
    exact run_float_arith w .mul _ .f64 x _ p hp
  have he := run_even p q hq
  have hc := fun w => run_convert_float_int (P := Tryz.prog) w 24 2 .f64 .i64 q n (by kernel_rfl) (by kernel_rfl) hn
  clear hw hp hq hn hf
  generalize keptI n = kn at HW ⊢
  go_enter Tryz.func6, Tryz.ntmps6
  go_wp2_with (first | (go_at_call 12; refine (HR.out _).mono ?_; rintro e w' ⟨rfl, rfl⟩) | (go_at_call 13; refine (HF.out _).mono ?_; rintro e w' ⟨rfl, rfl⟩) | (go_at_call 14; refine (HW.out _).mono ?_; rintro e w' ⟨rfl, rfl⟩))
  go_ret3
  exact ⟨rfl, rfl⟩
end Go.Proofs.YtpamkblhdgjlcaaGreatDoor
