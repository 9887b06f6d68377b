/- Walks of math/big's NewInt, Mul and Add at the sizes that layer 25 needs; an Int in memory. -/
import Derived.Test.YtpamkblhdgjlcaaGreatDoorProg
import Derived.Test.YtpamkblhdgjlcaaGreatDoorBase
import Derived.Test.YtpamkblhdgjlcaaGreatDoorNat3
import Derived.Test.YtpamkblhdgjlcaaGreatDoorNat4
import Derived.Test.YtpamkblhdgjlcaaGreatDoorMem
import Derived.WalkKit
import Derived.WalkSpells
import Derived.WalkLawsBesides
import Derived.Handy
import Derived.Deep.QuietTactic
import Derived.BigQuiet
import Derived.Deep.RegionHeld3
import Derived.LaidEqlPtr
import Derived.Deep.CutRange
import Derived.BigRegion
import Derived.Deep.RegionLaw
import Derived.Deep.AppendLies
import Derived.StillTailTactics
set_option linter.unusedSimpArgs false
set_option linter.unusedVariables false
namespace Go.Proofs.YtpamkblhdgjlcaaGreatDoor
open Go.RowKit Go.Shelf

theorem int_size : (Tryz.prog.info? 63).map (fun j => decide (j.size ≠ 0)) = some true := by kernel_rfl
/-- two Ints are two -/
theorem int_other (a b : Nat) (o1 o2 : Bool) (s1 s2 : Value) (w : World) (hne : a ≠ b) (ha : w.heap[a]? = some (iob o1 s1)) (hb : w.heap[b]? = some (iob o2 s2)) :
    (binOp .eql 59 (.pointer (some ⟨a, 0, none⟩)) (.pointer (some ⟨b, 0, none⟩))).run Tryz.prog w = .ok (.bool false) w := by
  obtain ⟨j, hj, hjs⟩ := Option.map_eq_some_iff.1 int_size
  exact run_eql_ptr_other w Tryz.underlying59 hj (of_decide_eq_true hjs) (fun e => hne (congrArg Addr.block e)) ha hb
theorem natMul0 (p sx sy : Value) (x y : Nat) (w : World) (hx : NatAt w sx x) (hy : NatAt w sy y) (h : x * y = 0) :
    Calls Tryz.prog 74 #[.slice none 0 0, p, sx, sy] w fun e w' => e = .returned (.slice none 0 0) ∧ Below w.heap.size w w' := by
  refine (natMul p sx sy x y w hx hy (by omega)).mono ?_
  rintro e w' ⟨s, rfl, L⟩
  rcases L.at_.shape with ⟨rfl, _⟩ | ⟨b, c, rfl, _, h0, _⟩
  · exact ⟨rfl, L.below⟩
  · exact absurd h h0
theorem natMul1 (p sx sy : Value) (x y : Nat) (w : World) (hx : NatAt w sx x) (hy : NatAt w sy y) (h : x * y < 18446744073709551616) (h0 : x * y ≠ 0) :
    Calls Tryz.prog 74 #[.slice none 0 0, p, sx, sy] w fun e w' => ∃ b c, e = .returned (.slice (some ⟨b, 0, none⟩) 1 c) ∧ Leaves w w.heap.size (.slice (some ⟨b, 0, none⟩) 1 c) (x * y) w' := by
  refine (natMul p sx sy x y w hx hy h).mono ?_
  rintro e w' ⟨s, rfl, L⟩
  rcases L.at_.shape with ⟨rfl, h1⟩ | ⟨b, c, rfl, _, h0, _⟩
  · exact absurd h1 h0
  · exact ⟨b, c, rfl, L⟩

/-- behind the store of the digits -/
def Rel3 (w : World) (pz px py : Nat) (oz nx ny : Bool) (sx sy : Value) (v : Nat) (wx : World) : Prop :=
  ∃ b c, wx.heap[pz]? = some (iob oz (.slice (some ⟨b, 0, none⟩) 1 c)) ∧ wx.heap[px]? = some (iob nx sx) ∧ wx.heap[py]? = some (iob ny sy) ∧ Only [pz] w wx ∧ NatAt wx (.slice (some ⟨b, 0, none⟩) 1 c) v ∧ w.heap.size ≤ b
theorem rel3 {w w1 : World} {pz px py : Nat} {oz nx ny : Bool} {s0 sx sy : Value} {v b c : Nat} (hz : w.heap[pz]? = some (iob oz s0)) (hx : w.heap[px]? = some (iob nx sx)) (hy : w.heap[py]? = some (iob ny sy))
    (hzx : pz ≠ px) (hzy : pz ≠ py) (L : Leaves w.drew w.drew.heap.size (.slice (some ⟨b, 0, none⟩) 1 c) v w1) : Rel3 w pz px py oz nx ny sx sy v (w1.setCell ⟨pz, 1, none⟩ (.slice (some ⟨b, 0, none⟩) 1 c)) := by
  have LB : Below w.heap.size w w1 := ⟨L.below.os, L.below.tape, L.below.output, L.below.size, L.below.block⟩
  have hb1 : w1.heap[pz]? = some (iob oz s0) := (LB.block pz (lt_of_block hz)).trans hz
  have hlow : w.heap.size ≤ b := L.low b (by simp [sb])
  exact ⟨b, c, block_setCell hb1 1 _, block_far ((LB.block px (lt_of_block hx)).trans hx) (Ne.symm hzx), block_far ((LB.block py (lt_of_block hy)).trans hy) (Ne.symm hzy),
    (Only.of_below LB [pz]).setCell (.inl (by simp)) _, L.at_.far (by simpa [sb] using Nat.ne_of_gt (Nat.lt_of_lt_of_le (lt_of_block hz) hlow)), hlow⟩

set_option maxHeartbeats 2000000 in
theorem imul1 (pz px py : Nat) (nx ny : Bool) (sx sy : Value) (x y : Nat) (w : World)
    (hz : w.heap[pz]? = some (iob false (.slice none 0 0))) (hx : w.heap[px]? = some (iob nx sx)) (hy : w.heap[py]? = some (iob ny sy))
    (hne : px ≠ py) (hzx : pz ≠ px) (hzy : pz ≠ py)
    (hsx : NatAt w sx x) (hsy : NatAt w sy y) (h : x * y < 18446744073709551616) (h0 : x * y ≠ 0) :
    Calls Tryz.prog 49 #[.pointer (some ⟨pz, 0, none⟩), .pointer none, .pointer (some ⟨px, 0, none⟩), .pointer (some ⟨py, 0, none⟩)] w fun e w' =>
      e = .returned (.tuple #[]) ∧ ∃ b c, w'.heap[pz]? = some (iob (nx != ny) (.slice (some ⟨b, 0, none⟩) 1 c)) ∧ NatAt w' (.slice (some ⟨b, 0, none⟩) 1 c) (x * y) ∧ w.heap.size ≤ b ∧ Only [pz] w w' := by
  have z0 : w.cell? ⟨pz, 0, none⟩ = some (.bool false) := cell_of hz 0 rfl
  have z1 : w.cell? ⟨pz, 1, none⟩ = some (.slice none 0 0) := cell_of hz 1 rfl
  have x0 : w.cell? ⟨px, 0, none⟩ = some (.bool nx) := cell_of hx 0 rfl
  have x1 : w.cell? ⟨px, 1, none⟩ = some sx := cell_of hx 1 rfl
  have y0 : w.cell? ⟨py, 0, none⟩ = some (.bool ny) := cell_of hy 0 rfl
  have y1 : w.cell? ⟨py, 1, none⟩ = some sy := cell_of hy 1 rfl
  have HM := Lib.hid (natMul1 (.pointer none) sx sy x y w.drew (hsx.frame hsx.lt (below_self w).drew) (hsy.frame hsy.lt (below_self w).drew) h h0)
  have hq := int_other px py nx ny sx sy w hne hx hy
  have HZ := Lib.hid hz
  have HX := Lib.hid hx
  have HY := Lib.hid hy
  clear hz hx hy h h0 hsx hsy
  go_enter Tryz.func49, Tryz.ntmps49
  go_upto_region 3 with fail
  go_cut [] from 27 to 43 (fun wx => Rel3 w pz px py false nx ny sx sy (x * y) wx)
  case first =>
    go_region_with (first | (go_at_call 74; refine HM.out.mono ?_; rintro e w' ⟨b, c, rfl, L⟩; have z1' : w'.cell? ⟨pz, 1, none⟩ = some (.slice none 0 0) := (L.below.cell (lt_of_block HZ.out)).trans z1; have f1' : w'.frozen? ⟨pz, 1, none⟩ = false := (L.below.frozen (lt_of_block HZ.out)).trans (free_of HZ.out 1)))
    all_goals (go_wp2_with fail; go_meet; exact rel3 HZ.out HX.out HY.out hzx hzy L)
  case rest =>
    clear z0 z1 x0 x1 y0 y1 hq HM
    obtain ⟨b, c, hb2, hx2, hy2, ho2, hn2, hlow⟩ := hcut
    have c1 : wc.cell? ⟨pz, 1, none⟩ = some (.slice (some ⟨b, 0, none⟩) 1 c) := cell_of hb2 1 rfl
    have c0 : wc.cell? ⟨pz, 0, none⟩ = some (.bool false) := cell_of hb2 0 rfl
    have cf : wc.frozen? ⟨pz, 0, none⟩ = false := free_of hb2 0
    have d0 : wc.cell? ⟨px, 0, none⟩ = some (.bool nx) := cell_of hx2 0 rfl
    have e0 : wc.cell? ⟨py, 0, none⟩ = some (.bool ny) := cell_of hy2 0 rfl
    have HB2 := Lib.hid hb2
    clear hb2 hx2 hy2
    go_wp2_with fail
    go_region
    all_goals (go_end0)
    exact ⟨rfl, b, c, block_setCell HB2.out 0 _, (hn2.far (by simpa [sb] using Nat.ne_of_gt (Nat.lt_of_lt_of_le (lt_of_block HZ.out) hlow))).drew, hlow, (ho2.setCell (.inl (by simp)) _).drew⟩
def Rel0 (w : World) (pz px py : Nat) (oz nx ny : Bool) (sx sy : Value) (wx : World) : Prop :=
  wx.heap[pz]? = some (iob oz (.slice none 0 0)) ∧ wx.heap[px]? = some (iob nx sx) ∧ wx.heap[py]? = some (iob ny sy) ∧ Only [pz] w wx
theorem rel0 {w w1 : World} {pz px py : Nat} {oz nx ny : Bool} {s0 sx sy : Value} (hz : w.heap[pz]? = some (iob oz s0)) (hx : w.heap[px]? = some (iob nx sx)) (hy : w.heap[py]? = some (iob ny sy))
    (hzx : pz ≠ px) (hzy : pz ≠ py) (L : Below w.drew.heap.size w.drew w1) : Rel0 w pz px py oz nx ny sx sy (w1.setCell ⟨pz, 1, none⟩ (.slice none 0 0)) := by
  have LB : Below w.heap.size w w1 := ⟨L.os, L.tape, L.output, L.size, L.block⟩
  have hb1 : w1.heap[pz]? = some (iob oz s0) := (LB.block pz (lt_of_block hz)).trans hz
  exact ⟨block_setCell hb1 1 _, block_far ((LB.block px (lt_of_block hx)).trans hx) (Ne.symm hzx), block_far ((LB.block py (lt_of_block hy)).trans hy) (Ne.symm hzy),
    (Only.of_below LB [pz]).setCell (.inl (by simp)) _⟩
set_option maxHeartbeats 2000000 in
theorem imul0 (pz px py : Nat) (nx ny : Bool) (sx sy : Value) (x y : Nat) (w : World)
    (hz : w.heap[pz]? = some (iob false (.slice none 0 0))) (hx : w.heap[px]? = some (iob nx sx)) (hy : w.heap[py]? = some (iob ny sy))
    (hne : px ≠ py) (hzx : pz ≠ px) (hzy : pz ≠ py)
    (hsx : NatAt w sx x) (hsy : NatAt w sy y) (h0 : x * y = 0) :
    Calls Tryz.prog 49 #[.pointer (some ⟨pz, 0, none⟩), .pointer none, .pointer (some ⟨px, 0, none⟩), .pointer (some ⟨py, 0, none⟩)] w fun e w' =>
      e = .returned (.tuple #[]) ∧ w'.heap[pz]? = some (iob false (.slice none 0 0)) ∧ Only [pz] w w' := by
  have z0 : w.cell? ⟨pz, 0, none⟩ = some (.bool false) := cell_of hz 0 rfl
  have z1 : w.cell? ⟨pz, 1, none⟩ = some (.slice none 0 0) := cell_of hz 1 rfl
  have x0 : w.cell? ⟨px, 0, none⟩ = some (.bool nx) := cell_of hx 0 rfl
  have x1 : w.cell? ⟨px, 1, none⟩ = some sx := cell_of hx 1 rfl
  have y0 : w.cell? ⟨py, 0, none⟩ = some (.bool ny) := cell_of hy 0 rfl
  have y1 : w.cell? ⟨py, 1, none⟩ = some sy := cell_of hy 1 rfl
  have HM := Lib.hid (natMul0 (.pointer none) sx sy x y w.drew (hsx.frame hsx.lt (below_self w).drew) (hsy.frame hsy.lt (below_self w).drew) h0)
  have hq := int_other px py nx ny sx sy w hne hx hy
  have HZ := Lib.hid hz
  have HX := Lib.hid hx
  have HY := Lib.hid hy
  clear hz hx hy h0 hsx hsy
  go_enter Tryz.func49, Tryz.ntmps49
  go_upto_region 3 with fail
  go_cut [] from 27 to 43 (fun wx => Rel0 w pz px py false nx ny sx sy wx)
  case first =>
    go_region_with (first | (go_at_call 74; refine HM.out.mono ?_; rintro e w' ⟨rfl, L⟩; have z1' : w'.cell? ⟨pz, 1, none⟩ = some (.slice none 0 0) := (L.cell (lt_of_block HZ.out)).trans z1; have f1' : w'.frozen? ⟨pz, 1, none⟩ = false := (L.frozen (lt_of_block HZ.out)).trans (free_of HZ.out 1)))
    all_goals (go_wp2_with fail; go_meet; exact rel0 HZ.out HX.out HY.out hzx hzy L)
  case rest =>
    clear z0 z1 x0 x1 y0 y1 hq HM
    obtain ⟨hb2, hx2, hy2, ho2⟩ := hcut
    have c1 : wc.cell? ⟨pz, 1, none⟩ = some (.slice none 0 0) := cell_of hb2 1 rfl
    have c0 : wc.cell? ⟨pz, 0, none⟩ = some (.bool false) := cell_of hb2 0 rfl
    have cf : wc.frozen? ⟨pz, 0, none⟩ = false := free_of hb2 0
    have HB2 := Lib.hid hb2
    clear hb2 hx2 hy2
    go_wp2_with fail
    go_region
    all_goals (go_end0)
    exact ⟨rfl, block_setCell HB2.out 0 _, (ho2.setCell (.inl (by simp)) _).drew⟩
end Go.Proofs.YtpamkblhdgjlcaaGreatDoor
