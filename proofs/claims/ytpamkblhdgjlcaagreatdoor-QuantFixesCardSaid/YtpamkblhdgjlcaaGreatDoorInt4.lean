/- Walks of math/big's QuoRem and DivMod into new Ints, by a number of one word. -/
import Derived.Test.YtpamkblhdgjlcaaGreatDoorProg
import Derived.Test.YtpamkblhdgjlcaaGreatDoorBase
import Derived.Test.YtpamkblhdgjlcaaGreatDoorMem
import Derived.Test.YtpamkblhdgjlcaaGreatDoorNat6
import Derived.WalkKit
import Derived.WalkSpells
import Derived.WalkLawsBesides
import Derived.Handy
import Derived.Deep.QuietTactic
import Derived.BigQuiet
import Derived.LaidEqlPtr
import Derived.Deep.CutRange
import Derived.BigRegion
import Derived.Deep.RegionLaw
set_option linter.unusedSimpArgs false
set_option linter.unusedVariables false
namespace Go.Proofs.YtpamkblhdgjlcaaGreatDoor
open Go.RowKit Go.Shelf

/-- by one word above 1 -/
theorem natDiv (sx sy : Value) (x y : Nat) (w : World) (hx : NatAt w sx x) (hy : NatAt w sy y) (h1 : 1 < y) (hq : x = 0 ∨ x / y ≠ 0) (n : Nat) :
    Calls Tryz.prog 109 #[.slice none 0 0, .pointer none, .slice none 0 0, sx, sy] (w.drewN n) fun e w' =>
      ∃ sq sr, e = .returned (.tuple #[sq, sr]) ∧ Makes w [] sq (x / y) w' ∧ Makes w [] sr (x % y) w' ∧ (∀ b ∈ sb sq, b ∉ sb sr) := by
  have hxl := hx.small
  rcases hy.shape with ⟨rfl, rfl⟩ | ⟨«by», cy, rfl, hcy, hy0, _, hyc, _⟩
  · omega
  rcases hx.shape with ⟨rfl, rfl⟩ | ⟨bx, cx, rfl, hcx, hx0, _, hxc, _⟩
  · refine (div_nil «by» cy y (w.drewN n) h1 hcy hyc).mono ?_
    rintro e w' ⟨rfl, rfl⟩
    rw [Nat.zero_div, Nat.zero_mod]
    exact ⟨_, _, rfl, ((leaves_nil (w.drewN n)).makes []).drawn, ((leaves_nil (w.drewN n)).makes []).drawn, by simp [sb]⟩
  have hq0 : x / y ≠ 0 := by omega
  have hql : x / y < 18446744073709551616 := Nat.lt_of_le_of_lt (Nat.div_le_self x y) hxl
  have hrl : x % y < 18446744073709551616 := Nat.lt_of_le_of_lt (Nat.mod_le x y) hxl
  by_cases hr : x % y = 0
  · refine (div_even bx cx «by» cy x y (w.drewN n) hxl h1 hq0 hr hcx hcy hxc hyc).mono ?_
    rintro e w' ⟨rfl, m, rfl⟩
    rw [hr]
    exact ⟨_, _, rfl, ((leaves_tight (w.drewN n) _ m hq0 hql).makes []).drawn, ⟨.nil, by simp [sb], (((Only.refl [] w).drewN n).alloc _).drewN m⟩, by simp [sb]⟩
  · refine (div_odd bx cx «by» cy x y (w.drewN n) hxl h1 hq0 hr hcx hcy hxc hyc).mono ?_
    rintro e w' ⟨rfl, m, rfl⟩
    exact ⟨_, _, rfl, ⟨.tight (block_drewN (block_alloc (block_new (w.drewN n) _))) hq0 hql, by simp [sb], ((((Only.refl [] w).drewN n).alloc _).alloc _).drewN m⟩,
      ⟨.tight (block_drewN (by simpa using block_new ((w.drewN n).alloc (.cells #[.int .u64 ((x / y : Nat) : Int)] 82 (0, 0))) _)) hr hrl, by simp [sb], ((((Only.refl [] w).drewN n).alloc _).alloc _).drewN m⟩, by simp [sb]⟩
theorem NatAt.far1 {w : World} {s v : Value} {x p i : Nat} (h : NatAt w s x) (ha : ∀ b ∈ sb s, b ≠ p) : NatAt (w.setCell ⟨p, i, none⟩ v) s x := h.far ha
/-- behind the two stores of the digits -/
def RelQ (w : World) (pz pr : Nat) (nz nr : Bool) (q r : Nat) (wx : World) : Prop :=
  ∃ sq sr, wx.heap[pz]? = some (iob nz sq) ∧ wx.heap[pr]? = some (iob nr sr) ∧ Makes w [pz, pr] sq q wx ∧ Makes w [pz, pr] sr r wx ∧ (∀ b ∈ sb sq, b ∉ sb sr)
theorem RelQ.store {w wx : World} {pz pr q r : Nat} {sq sr : Value} (nz nr : Bool) (hz : wx.heap[pz]? = some (iob false sq)) (hr : wx.heap[pr]? = some (iob false sr)) (Q : Makes w [pz, pr] sq q wx) (R : Makes w [pz, pr] sr r wx) (hap : ∀ b ∈ sb sq, b ∉ sb sr) (hzr : pz ≠ pr) :
    RelQ w pz pr nz nr q r ((wx.setCell ⟨pz, 0, none⟩ (.bool nz)).setCell ⟨pr, 0, none⟩ (.bool nr)).drew := by
  have ho : Only [pz, pr] w ((wx.setCell ⟨pz, 0, none⟩ (.bool nz)).setCell ⟨pr, 0, none⟩ (.bool nr)).drew := ((Q.only.setCell (.inl (by simp)) _).setCell (.inl (by simp)) _).drew
  exact ⟨sq, sr, block_far (block_setCell hz 0 _) hzr, block_setCell (block_far hr (Ne.symm hzr)) 0 _,
    ⟨((Q.at_.far1 (iob_apart hz Q.at_)).far1 (iob_apart hr Q.at_)).drew, Q.low, ho⟩, ⟨((R.at_.far1 (iob_apart hz R.at_)).far1 (iob_apart hr R.at_)).drew, R.low, ho⟩, hap⟩
theorem RelQ.store' {w wx : World} {pz pr q r : Nat} {sq sr : Value} (nz nr : Bool) (hz : wx.heap[pz]? = some (iob false sq)) (hr : wx.heap[pr]? = some (iob false sr)) (Q : Makes w [pz, pr] sq q wx) (R : Makes w [pz, pr] sr r wx) (hap : ∀ b ∈ sb sq, b ∉ sb sr) (hzr : pz ≠ pr) :
    RelQ w pz pr nz nr q r ((wx.setCell ⟨pr, 0, none⟩ (.bool nr)).setCell ⟨pz, 0, none⟩ (.bool nz)).drew := by
  have ho : Only [pz, pr] w ((wx.setCell ⟨pr, 0, none⟩ (.bool nr)).setCell ⟨pz, 0, none⟩ (.bool nz)).drew := ((Q.only.setCell (.inl (by simp)) _).setCell (.inl (by simp)) _).drew
  exact ⟨sq, sr, block_setCell (block_far hz hzr) 0 _, block_far (block_setCell hr 0 _) (Ne.symm hzr),
    ⟨((Q.at_.far1 (iob_apart hr Q.at_)).far1 (iob_apart hz Q.at_)).drew, Q.low, ho⟩, ⟨((R.at_.far1 (iob_apart hr R.at_)).far1 (iob_apart hz R.at_)).drew, R.low, ho⟩, hap⟩
theorem at2 {w : World} {p p' : Nat} {v : Value} {neg : Bool} {s : Value} (h : w.heap[p]? = some (iob neg s)) (hne : p ≠ p') : (w.setCell ⟨p', 1, none⟩ v).cell? ⟨p, 1, none⟩ = some s ∧ (w.setCell ⟨p', 1, none⟩ v).frozen? ⟨p, 1, none⟩ = false :=
  ⟨cell_of (block_far h hne) 1 rfl, free_of (block_far h hne) 1⟩
theorem relQ {w w1 : World} {pz pr q r : Nat} {sq sr : Value} (hz : w.heap[pz]? = some (iob false (.slice none 0 0))) (hr : w.heap[pr]? = some (iob false (.slice none 0 0))) (hzr : pz ≠ pr)
    (Q : Makes w [] sq q w1) (R : Makes w [] sr r w1) (hap : ∀ b ∈ sb sq, b ∉ sb sr) : RelQ w pz pr false false q r ((w1.setCell ⟨pz, 1, none⟩ sq).setCell ⟨pr, 1, none⟩ sr) := by
  have hb1 := Q.only.at hz (by simp)
  have hb2 := Q.only.at hr (by simp)
  have ho : Only [pz, pr] w ((w1.setCell ⟨pz, 1, none⟩ sq).setCell ⟨pr, 1, none⟩ sr) := ((Q.only.mono (by simp)).setCell (.inl (by simp)) _).setCell (.inl (by simp)) _
  exact ⟨sq, sr, block_far (block_setCell hb1 1 _) hzr, block_setCell (block_far hb2 (Ne.symm hzr)) 1 _,
    ⟨(Q.at_.far1 (iob_apart hb1 Q.at_)).far1 (iob_apart hb2 Q.at_), fun b hb => (Q.low b hb).imp (by simp) id, ho⟩,
    ⟨(R.at_.far1 (iob_apart hb1 R.at_)).far1 (iob_apart hb2 R.at_), fun b hb => (R.low b hb).imp (by simp) id, ho⟩, hap⟩
theorem relQ' {w w1 : World} {pz pr q r : Nat} {sq sr : Value} (hz : w.heap[pz]? = some (iob false (.slice none 0 0))) (hr : w.heap[pr]? = some (iob false (.slice none 0 0))) (hzr : pz ≠ pr)
    (Q : Makes w [] sq q w1) (R : Makes w [] sr r w1) (hap : ∀ b ∈ sb sq, b ∉ sb sr) : RelQ w pz pr false false q r ((w1.setCell ⟨pr, 1, none⟩ sr).setCell ⟨pz, 1, none⟩ sq) := by
  have hb1 := Q.only.at hz (by simp)
  have hb2 := Q.only.at hr (by simp)
  have ho : Only [pz, pr] w ((w1.setCell ⟨pr, 1, none⟩ sr).setCell ⟨pz, 1, none⟩ sq) := ((Q.only.mono (by simp)).setCell (.inl (by simp)) _).setCell (.inl (by simp)) _
  exact ⟨sq, sr, block_setCell (block_far hb1 hzr) 1 _, block_far (block_setCell hb2 1 _) (Ne.symm hzr),
    ⟨(Q.at_.far1 (iob_apart hb2 Q.at_)).far1 (iob_apart hb1 Q.at_), fun b hb => (Q.low b hb).imp (by simp) id, ho⟩,
    ⟨(R.at_.far1 (iob_apart hb2 R.at_)).far1 (iob_apart hb1 R.at_), fun b hb => (R.low b hb).imp (by simp) id, ho⟩, hap⟩
theorem NatAt.isSlice {w : World} {s : Value} {x : Nat} (h : NatAt w s x) : ∃ o l c, s = .slice o l c := by
  cases h with
  | nil => exact ⟨_, _, _, rfl⟩
  | tight h h0 h1 => exact ⟨_, _, _, rfl⟩
  | roomy h h0 h1 => exact ⟨_, _, _, rfl⟩
theorem natDiv' (sx sy : Value) (x y : Nat) (w : World) (hx : NatAt w sx x) (hy : NatAt w sy y) (h1 : 1 < y) (hq : x = 0 ∨ x / y ≠ 0) (n : Nat) :
    Calls Tryz.prog 109 #[.slice none 0 0, .pointer none, .slice none 0 0, sx, sy] (w.drewN n) fun e w' =>
      ∃ o l c o' l' c', e = .returned (.tuple #[.slice o l c, .slice o' l' c']) ∧ Makes w [] (.slice o l c) (x / y) w' ∧ Makes w [] (.slice o' l' c') (x % y) w' ∧ (∀ b ∈ sb (.slice o l c), b ∉ sb (.slice o' l' c')) := by
  refine (natDiv sx sy x y w hx hy h1 hq n).mono ?_
  rintro e w' ⟨sq, sr, rfl, L, B, hap⟩
  obtain ⟨o, l, c, rfl⟩ := L.at_.isSlice
  obtain ⟨o', l', c', rfl⟩ := B.at_.isSlice
  exact ⟨_, _, _, _, _, _, rfl, L, B, hap⟩
theorem at1' {w : World} {p : Nat} {neg : Bool} {s : Value} (h : w.heap[p]? = some (iob neg s)) : w.cell? ⟨p, 1, none⟩ = some s ∧ w.frozen? ⟨p, 1, none⟩ = false := ⟨cell_of h 1 rfl, free_of h 1⟩

set_option maxHeartbeats 0 in
theorem iquo (pz px py pr : Nat) (nx : Bool) (sx sy : Value) (x y : Nat) (w : World)
    (hz : w.heap[pz]? = some (iob false (.slice none 0 0))) (hx : w.heap[px]? = some (iob nx sx)) (hy : w.heap[py]? = some (iob false sy)) (hr : w.heap[pr]? = some (iob false (.slice none 0 0)))
    (hzr : pz ≠ pr) (hxz : px ≠ pz) (hxr : px ≠ pr) (hyz : py ≠ pz) (hyr : py ≠ pr) (hsx : NatAt w sx x) (hsy : NatAt w sy y) (h1 : 1 < y) (hq : x = 0 ∨ x / y ≠ 0) :
    Calls Tryz.prog 79 #[.pointer (some ⟨pz, 0, none⟩), .pointer (some ⟨px, 0, none⟩), .pointer (some ⟨py, 0, none⟩), .pointer (some ⟨pr, 0, none⟩)] w fun e w' =>
      e = .returned (.tuple #[.pointer (some ⟨pz, 0, none⟩), .pointer (some ⟨pr, 0, none⟩)]) ∧ RelQ w pz pr (nx && decide (x / y ≠ 0)) (nx && decide (x % y ≠ 0)) (x / y) (x % y) w' := by
  have z1 : w.cell? ⟨pz, 1, none⟩ = some (.slice none 0 0) := cell_of hz 1 rfl
  have r1 : w.cell? ⟨pr, 1, none⟩ = some (.slice none 0 0) := cell_of hr 1 rfl
  have x1 : w.cell? ⟨px, 1, none⟩ = some sx := cell_of hx 1 rfl
  have y1 : w.cell? ⟨py, 1, none⟩ = some sy := cell_of hy 1 rfl
  have HD := Lib.hid (fun n => natDiv' sx sy x y w hsx hsy h1 hq n)
  have HZ := Lib.hid hz
  have HR := Lib.hid hr
  have HX := Lib.hid hx
  have HY := Lib.hid hy
  clear hz hx hy hr hsx hsy h1 hq
  go_enter Tryz.func79, Tryz.ntmps79
  go_upto_region 1 with fail
  go_cut [] from 10 to 35 (fun wx => RelQ w pz pr false false (x / y) (x % y) wx ∧ wx.heap[px]? = some (iob nx sx) ∧ wx.heap[py]? = some (iob false sy))
  case first =>
    go_region_law (first | (go_simp; go_at_call 109; refine (HD.out _).mono ?_; rintro e w' ⟨o, l, c, o', l', c', rfl, L, B, hap⟩; obtain ⟨z1', f1'⟩ := at1' (L.only.at HZ.out (by simp)); obtain ⟨r1', g1'⟩ := at1' (L.only.at HR.out (by simp)); obtain ⟨r2', g2'⟩ := at2 (v := .slice o l c) (L.only.at HR.out (by simp)) (Ne.symm hzr); obtain ⟨z2', f2'⟩ := at2 (v := .slice o' l' c') (L.only.at HZ.out (by simp)) hzr))
    all_goals (go_wp2_with fail; go_meet; first | exact ⟨relQ HZ.out HR.out hzr L B hap, block_far (block_far (L.only.at HX.out (by simp)) hxz) hxr, block_far (block_far (L.only.at HY.out (by simp)) hyz) hyr⟩ | exact ⟨relQ' HZ.out HR.out hzr L B hap, block_far (block_far (L.only.at HX.out (by simp)) hxr) hxz, block_far (block_far (L.only.at HY.out (by simp)) hyr) hyz⟩)
  case rest =>
    clear z1 r1 x1 y1 HD
    obtain ⟨⟨sq, sr, hz2, hr2, Q, R, hap⟩, hx2, hy2⟩ := hcut
    have c0 : wc.cell? ⟨pz, 0, none⟩ = some (.bool false) := cell_of hz2 0 rfl
    have cf : wc.frozen? ⟨pz, 0, none⟩ = false := free_of hz2 0
    have c1 : wc.cell? ⟨pz, 1, none⟩ = some sq := cell_of hz2 1 rfl
    have d0 : wc.cell? ⟨pr, 0, none⟩ = some (.bool false) := cell_of hr2 0 rfl
    have df : wc.frozen? ⟨pr, 0, none⟩ = false := free_of hr2 0
    have d1 : wc.cell? ⟨pr, 1, none⟩ = some sr := cell_of hr2 1 rfl
    have e0 : wc.cell? ⟨px, 0, none⟩ = some (.bool nx) := cell_of hx2 0 rfl
    have g0 : wc.cell? ⟨py, 0, none⟩ = some (.bool false) := cell_of hy2 0 rfl
    have HZ2 := Lib.hid hz2
    have HR2 := Lib.hid hr2
    have c0' : ∀ v, (wc.setCell ⟨pr, 0, none⟩ v).cell? ⟨pz, 0, none⟩ = some (.bool false) := fun v => cell_of (block_far HZ2.out hzr) 0 rfl
    have cf' : ∀ v, (wc.setCell ⟨pr, 0, none⟩ v).frozen? ⟨pz, 0, none⟩ = false := fun v => free_of (block_far HZ2.out hzr) 0
    have d0' : ∀ v, (wc.setCell ⟨pz, 0, none⟩ v).cell? ⟨pr, 0, none⟩ = some (.bool false) := fun v => cell_of (block_far HR2.out (Ne.symm hzr)) 0 rfl
    have df' : ∀ v, (wc.setCell ⟨pz, 0, none⟩ v).frozen? ⟨pr, 0, none⟩ = false := fun v => free_of (block_far HR2.out (Ne.symm hzr)) 0
    clear hz2 hr2 hx2 hy2
    rcases Q.at_.shape with ⟨rfl, q0⟩ | ⟨b, c, rfl, _, q0, _, _, _⟩ <;> rcases R.at_.shape with ⟨rfl, r0⟩ | ⟨b', c', rfl, _, r0, _, _, _⟩
    all_goals (
      have hq' := q0
      have hr' := r0
      clear q0 r0
      go_wp2_with fail
      go_region
      all_goals (go_wp2_with fail; go_ret2; first | exact ⟨rfl, by simpa [hq', hr'] using RelQ.store _ _ HZ2.out HR2.out Q R hap hzr⟩ | exact ⟨rfl, by simpa [hq', hr'] using RelQ.store' _ _ HZ2.out HR2.out Q R hap hzr⟩))
end Go.Proofs.YtpamkblhdgjlcaaGreatDoor
