/- Walk of math/big's Int.Add onto the first, where both are above nothing: the sum has room for more words. -/
import Derived.Test.YtmkcnpimlgjbhaaGreatDoorProg
import Derived.Test.YtmkcnpimlgjbhaaGreatDoorBase
import Derived.Test.YtmkcnpimlgjbhaaGreatDoorNat3
import Derived.Test.YtmkcnpimlgjbhaaGreatDoorMem
import Derived.Test.YtmkcnpimlgjbhaaGreatDoorInt2
import Derived.Test.YtmkcnpimlgjbhaaGreatDoorInt3
import Derived.WalkKit
import Derived.WalkSpells
import Derived.WalkLawsBesides
import Derived.Handy
import Derived.Deep.QuietTactic
import Derived.BigQuiet
import Derived.LaidEqlPtr
import Derived.Deep.CutRange
import Derived.BigRegion
import Derived.Deep.RegionLaw
set_option linter.unusedSimpArgs false
set_option linter.unusedVariables false
namespace Go.Proofs.YtmkcnpimlgjbhaaGreatDoor
open Go.RowKit Go.Shelf

/-- add onto the first, both something: room for more -/
theorem natAdd6 (sx sy : Value) (x y : Nat) (w : World) (hx : NatAt w sx x) (hy : NatAt w sy y) (h : x + y < 18446744073709551616) (hx1 : x ≠ 0) (hy1 : y ≠ 0) (n : Nat) :
    Calls Tryz.prog 37 #[sx, sx, sy] (w.drewN n) fun e w' => ∃ b, e = .returned (.slice (some ⟨b, 0, none⟩) 1 6) ∧ Makes w (sb sx) (.slice (some ⟨b, 0, none⟩) 1 6) (x + y) w' := by
  have hlo : lo64 ((x : Int) + (y : Int)) = ((x + y : Nat) : Int) := lo64_nat (x + y) h
  have hhi : hi64 ((x : Int) + (y : Int)) = 0 := hi64_nat (x + y) h
  have hy := hy.drewN n
  have hx := hx.drewN n
  rcases hy.shape with ⟨rfl, h'⟩ | ⟨«by», cy, rfl, hcy, hy0, _, hyc, _⟩
  · exact absurd h' hy1
  cases hx with
  | nil => exact absurd rfl hx1
  | @tight a x hb h0 h1 =>
    refine (add_new a «by» cy x y _ (by omega) (by omega) (by rw [hlo]; simp only [beq_eq_false_iff_ne, ne_eq]; omega) hhi hcy (cell_of hb 0 rfl) hyc).mono ?_
    rintro e w' ⟨rfl, n', rfl⟩
    rw [hlo]
    exact ⟨_, rfl, ((leaves_roomy _ _ n' (by omega) h).makes _).drawn⟩
  | @roomy a x c1 c2 c3 c4 c5 hb h0 h1 =>
    refine (add_in1 a «by» cy x y c1 c2 c3 c4 c5 _ (by omega) (by omega) (by rw [hlo]; simp only [beq_eq_false_iff_ne, ne_eq]; omega) hhi hcy hb hyc).mono ?_
    rintro e w' ⟨rfl, ho, hb'⟩
    rw [hlo] at hb'
    exact ⟨_, rfl, .roomy hb' (by omega) h, fun b hb => .inl hb, ⟨ho.os, ho.tape, ho.output, ho.size, ho.block⟩⟩
/-- behind the store of the digits, with room -/
def RelA6 (w : World) (S : List Nat) (ps : Nat) (o : Bool) (v : Nat) (wx : World) : Prop :=
  ∃ b, wx.heap[ps]? = some (iob o (.slice (some ⟨b, 0, none⟩) 1 6)) ∧ Only (ps :: S) w wx ∧ NatAt wx (.slice (some ⟨b, 0, none⟩) 1 6) v ∧ (b ∈ S ∨ w.heap.size ≤ b)
theorem relA6 {w w1 : World} {S : List Nat} {ps : Nat} {o : Bool} {s0 : Value} {v b : Nat} (hs : w.heap[ps]? = some (iob o s0)) (hS : ps ∉ S)
    (L : Makes w S (.slice (some ⟨b, 0, none⟩) 1 6) v w1) : RelA6 w S ps o v (w1.setCell ⟨ps, 1, none⟩ (.slice (some ⟨b, 0, none⟩) 1 6)) := by
  have hb1 : w1.heap[ps]? = some (iob o s0) := L.only.at hs hS
  have hlow := L.low b (by simp [sb])
  exact ⟨b, block_setCell hb1 1 _, (L.only.mono (fun s hs => .inl (by simp [hs]))).setCell (.inl (by simp)) _, L.at_.far (iob_apart hb1 L.at_), hlow⟩
theorem RelA6.store {w wx : World} {S : List Nat} {ps : Nat} {o : Bool} {v : Nat} {b : Nat} (o' : Bool) (hb : wx.heap[ps]? = some (iob o (.slice (some ⟨b, 0, none⟩) 1 6))) (ho : Only (ps :: S) w wx) (hn : NatAt wx (.slice (some ⟨b, 0, none⟩) 1 6) v) (hl : b ∈ S ∨ w.heap.size ≤ b) (n : Nat) :
    RelA6 w S ps o' v ((wx.setCell ⟨ps, 0, none⟩ (.bool o')).drewN n) :=
  ⟨b, block_setCell hb 0 _, (ho.setCell (.inl (by simp)) _).drewN n, (hn.far (iob_apart hb hn)).drewN n, hl⟩
set_option maxHeartbeats 2000000 in
theorem iadd_same6 (ps py : Nat) (nx : Bool) (sx sy : Value) (x y : Nat) (w : World)
    (hx : w.heap[ps]? = some (iob nx sx)) (hy : w.heap[py]? = some (iob nx sy)) (hsx : NatAt w sx x) (hsy : NatAt w sy y) (h : x + y < 18446744073709551616) (hx1 : x ≠ 0) (hy1 : y ≠ 0) :
    Calls Tryz.prog 22 #[.pointer (some ⟨ps, 0, none⟩), .pointer (some ⟨ps, 0, none⟩), .pointer (some ⟨py, 0, none⟩)] w fun e w' =>
      e = .returned (.pointer (some ⟨ps, 0, none⟩)) ∧ RelA6 w (sb sx) ps nx (x + y) w' := by
  have x0 : w.cell? ⟨ps, 0, none⟩ = some (.bool nx) := cell_of hx 0 rfl
  have x1 : w.cell? ⟨ps, 1, none⟩ = some sx := cell_of hx 1 rfl
  have y0 : w.cell? ⟨py, 0, none⟩ = some (.bool nx) := cell_of hy 0 rfl
  have y1 : w.cell? ⟨py, 1, none⟩ = some sy := cell_of hy 1 rfl
  have HM := Lib.hid (fun n => natAdd6 sx sy x y w hsx hsy h hx1 hy1 n)
  have hS : ps ∉ (sb sx) := apart_sb hx hsx
  have HX := Lib.hid hx
  clear hx hy hsy hsx h hx1 hy1
  go_enter Tryz.func22, Tryz.ntmps22
  go_wp2_with fail
  go_quiet (fail)
  go_upto_region 3 with fail
  go_cut [] from 21 to 36 (fun wx => RelA6 w (sb sx) ps nx (x + y) wx)
  case first =>
    go_region_with (first | (go_at_call 37; refine (HM.out _).mono ?_; rintro e w' ⟨b, rfl, L⟩; obtain ⟨z1', f1'⟩ := at1 (L.only.at HX.out hS)))
    all_goals (go_wp2_with fail; go_meet; exact relA6 HX.out hS L)
  case rest =>
    clear x0 x1 y0 y1 HM
    obtain ⟨b, hb2, ho2, hn2, hlow⟩ := hcut
    have c1 : wc.cell? ⟨ps, 1, none⟩ = some (.slice (some ⟨b, 0, none⟩) 1 6) := cell_of hb2 1 rfl
    have c0 : wc.cell? ⟨ps, 0, none⟩ = some (.bool nx) := cell_of hb2 0 rfl
    have cf : wc.frozen? ⟨ps, 0, none⟩ = false := free_of hb2 0
    have HB2 := Lib.hid hb2
    clear hb2
    go_wp2_with fail
    go_ret
    exact ⟨rfl, RelA6.store nx HB2.out ho2 hn2 hlow 0⟩
end Go.Proofs.YtmkcnpimlgjbhaaGreatDoor
