/- The walk of the reference's DivN. -/
import Derived.Test.YtpamkblhdgjlcaaGreatDoorProg
import Derived.Test.YtpamkblhdgjlcaaGreatDoorBase
import Derived.Test.YtpamkblhdgjlcaaGreatDoorRE
import Derived.WalkKit
import Derived.WalkSpells
import Derived.WalkLawsBesides
import Derived.Handy
import Derived.Deep.QuietTactic
import Derived.Deep.OwnRows
import Derived.BigQuiet
import Derived.OwnWalk
import Derived.Laws.AppendOwn
set_option linter.unusedSimpArgs false
set_option linter.unusedVariables false
namespace Go.Proofs.YtpamkblhdgjlcaaGreatDoor
open Go.RowKit

theorem cmp_neg (x y : Nat) : decide (cmpNat x y < 0) = decide (x < y) := by
  unfold cmpNat
  by_cases h1 : x < y
  · rw [if_pos h1, decide_eq_true h1, decide_eq_true (by omega)]
  · by_cases h2 : y < x
    · rw [if_neg h1, if_pos h2, decide_eq_false h1, decide_eq_false (by omega)]
    · rw [if_neg h1, if_neg h2, decide_eq_false h1, decide_eq_false (by omega)]
set_option maxRecDepth 8000 in
set_option maxHeartbeats 2000000 in
theorem div_less (v u : Value) (a b : Nat) (w : World) (hv : Num w v a) (hu : Num w u b) (hla : nd a ≤ 1099511627776) (h : a < b) :
    Calls Tryz.prog 55 #[v, u] w fun e w' => ∃ x y, e = .returned (.tuple #[x, y]) ∧ Num w' x (a / b) ∧ Num w' y (a % b) ∧ Only [] w w' := by
  have HV := Lib.hid hv
  have HU := Lib.hid hu
  have hc : cmpNat a b = -1 := by unfold cmpNat; rw [if_pos h]
  have HC := Lib.hid hc
  rw [Nat.div_eq_of_lt h, Nat.mod_eq_of_lt h]
  clear hv hu h hc
  go_enter Tryz.func55, Tryz.ntmps55
  go_wp2_with (go_at_call 57; refine (cmp_ v u a b _ HV.out HU.out (by omega)).mono ?_; rintro e w1 ⟨rfl, ho⟩; have HO := Lib.hid ho; clear ho; rw [HC.out])
  go_ret2
  exact ⟨_, _, rfl, Num.zero _, HV.out.frame HO.out, HO.out⟩
set_option maxRecDepth 8000 in
set_option maxHeartbeats 2000000 in
theorem div_one (v u : Value) (a b : Nat) (w : World) (hv : Num w v a) (hu : Num w u b) (hla : nd a ≤ 1099511627776) (h : b ≤ a) (hb : nd b = 1) :
    Calls Tryz.prog 55 #[v, u] w fun e w' => ∃ x y, e = .returned (.tuple #[x, y]) ∧ Num w' x (a / b) ∧ Num w' y (a % b) ∧ Only [] w w' := by
  have HU := Lib.hid hu
  have HV := Lib.hid hv
  obtain ⟨A, c, rfl, hc, hA, hr⟩ := hv
  obtain ⟨A', c', rfl, hc', hA', hr'⟩ := hu
  have hb1 : b < P 1 := (nd_le b 1).1 (by omega)
  have hb2 : b < 4294967296 := hb1
  have hb0 : 0 < b := by
    rcases Nat.eq_zero_or_pos b with h' | h'
    · rw [h'] at hb; cases hb
    · exact h'
  rw [hb] at hr' HU
  obtain ⟨bB, oB, rfl, hcb⟩ : ∃ bk ok, A' = some ⟨bk, ok, none⟩ ∧ w.cell? ⟨bk, ok + 0, none⟩ = some (.int .u64 ((dg b 0 : Nat) : Int)) := by
    rcases hr' with h' | ⟨bk, ok, hA, h'⟩
    · omega
    · exact ⟨bk, ok, hA, h' 0 (by omega)⟩
  rw [dg_one b hb2, Nat.add_zero] at hcb
  have hcm : cmpNat a b = 0 ∨ cmpNat a b = 1 := by
    unfold cmpNat
    rw [if_neg (by omega)]
    by_cases h2 : b < a
    · rw [if_pos h2]; exact .inr rfl
    · rw [if_neg h2]; exact .inl rfl
  have hc0 : ¬ cmpNat a b < 0 := by omega
  have HCELL := Lib.hid hcb
  have HR := Lib.hid hr
  have HB2 := Lib.hid hb2
  have HB0 := Lib.hid hb0
  have hcu : Num w (.slice (some ⟨bB, oB, none⟩) (nd b) c') b := by rw [hb]; exact HU.out
  rw [hb]
  rw [hb] at hcu
  have HCU := Lib.hid hcu
  clear hr hr' hb2 hb1 hb0 hc hA hA' hcb hcu h hcm hb
  go_enter Tryz.func55, Tryz.ntmps55
  go_wp2_with first
    | (go_at_call 57; refine (cmp_ _ _ a b _ HV.out HCU.out (by omega)).mono ?_; rintro e w1 ⟨rfl, ho⟩; have HO := Lib.hid ho; have hcc := (show w1.cell? ⟨bB, oB, none⟩ = some (.int .u64 (b : Int)) by rw [World.cell?_of_block (w := w) (ho.block _ (World.block_lt_of_cell? w _ HCELL.out) (by simp))]; exact HCELL.out); clear ho; generalize cmpNat a b = cv at *)
    | (go_at_call 82; refine (small_ A (nd a) c a b _ (lt_P a) hla HB0.out HB2.out (HR.out.frame HO.out)).mono ?_; rintro e w2 ⟨x, y, rfl, h1, h2, ho⟩; have HN1 := Lib.hid h1; have HN2 := Lib.hid h2; have HO2 := Lib.hid ho; clear h1 h2 ho)
  go_ret2
  exact ⟨_, _, rfl, HN1.out, HN2.out, HO.out.trans HO2.out⟩
end Go.Proofs.YtpamkblhdgjlcaaGreatDoor
