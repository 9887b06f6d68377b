/- Walk of math/big's QuoRem and DivMod into new Ints, whatever the naturals' quotient is known to be. -/
import Derived.Test.YtmkcnpimlgjbhaaGreatDoorProg
import Derived.Test.YtmkcnpimlgjbhaaGreatDoorBase
import Derived.Test.YtmkcnpimlgjbhaaGreatDoorMem
import Derived.Test.YtmkcnpimlgjbhaaGreatDoorInt1
import Derived.Test.YtmkcnpimlgjbhaaGreatDoorInt4
import Derived.Test.YtmkcnpimlgjbhaaGreatDoorInt6
import Derived.WalkKit
import Derived.WalkSpells
import Derived.WalkLawsBesides
import Derived.Handy
import Derived.Deep.QuietTactic
import Derived.BigQuiet
import Derived.LaidEqlPtr
import Derived.Deep.CutRange
import Derived.BigRegion
import Derived.Deep.RegionLaw
set_option linter.unusedSimpArgs false
set_option linter.unusedVariables false
namespace Go.Proofs.YtmkcnpimlgjbhaaGreatDoor
open Go.RowKit Go.Shelf

set_option maxHeartbeats 0 in
theorem iquoG (pz px py pr : Nat) (sx sy : Value) (q r : Nat) (w : World)
    (hz : w.heap[pz]? = some (iob false (.slice none 0 0))) (hx : w.heap[px]? = some (iob false sx)) (hy : w.heap[py]? = some (iob false sy)) (hr : w.heap[pr]? = some (iob false (.slice none 0 0)))
    (hzr : pz ≠ pr) (hxz : px ≠ pz) (hxr : px ≠ pr) (hyz : py ≠ pz) (hyr : py ≠ pr) 
    (hd : ∀ n, Calls Tryz.prog 83 #[.slice none 0 0, .pointer none, .slice none 0 0, sx, sy] (w.drewN n) fun e w' =>
      ∃ o l c o' l' c', e = .returned (.tuple #[.slice o l c, .slice o' l' c']) ∧ Makes w [] (.slice o l c) q w' ∧ Makes w [] (.slice o' l' c') r w' ∧ (∀ b ∈ sb (.slice o l c), b ∉ sb (.slice o' l' c'))) :
    Calls Tryz.prog 62 #[.pointer (some ⟨pz, 0, none⟩), .pointer (some ⟨px, 0, none⟩), .pointer (some ⟨py, 0, none⟩), .pointer (some ⟨pr, 0, none⟩)] w fun e w' =>
      e = .returned (.tuple #[.pointer (some ⟨pz, 0, none⟩), .pointer (some ⟨pr, 0, none⟩)]) ∧ RelQ w pz pr false false q r w' := by
  have z1 : w.cell? ⟨pz, 1, none⟩ = some (.slice none 0 0) := cell_of hz 1 rfl
  have r1 : w.cell? ⟨pr, 1, none⟩ = some (.slice none 0 0) := cell_of hr 1 rfl
  have x1 : w.cell? ⟨px, 1, none⟩ = some sx := cell_of hx 1 rfl
  have y1 : w.cell? ⟨py, 1, none⟩ = some sy := cell_of hy 1 rfl
  have HD := Lib.hid hd
  have HZ := Lib.hid hz
  have HR := Lib.hid hr
  have HX := Lib.hid hx
  have HY := Lib.hid hy
  clear hz hx hy hr hd
  go_enter Tryz.func62, Tryz.ntmps62
  go_upto_region 1 with fail
  go_cut [] from 10 to 35 (fun wx => RelQ w pz pr false false q r wx ∧ wx.heap[px]? = some (iob false sx) ∧ wx.heap[py]? = some (iob false sy))
  case first =>
    go_region_law (first | (go_simp; go_at_call 83; refine (HD.out _).mono ?_; rintro e w' ⟨o, l, c, o', l', c', rfl, L, B, hap⟩; obtain ⟨z1', f1'⟩ := at1' (L.only.at HZ.out (by simp)); obtain ⟨r1', g1'⟩ := at1' (L.only.at HR.out (by simp)); obtain ⟨r2', g2'⟩ := at2 (v := .slice o l c) (L.only.at HR.out (by simp)) (Ne.symm hzr); obtain ⟨z2', f2'⟩ := at2 (v := .slice o' l' c') (L.only.at HZ.out (by simp)) hzr))
    all_goals (go_wp2_with fail; go_meet; first | exact ⟨relQ HZ.out HR.out hzr L B hap, block_far (block_far (L.only.at HX.out (by simp)) hxz) hxr, block_far (block_far (L.only.at HY.out (by simp)) hyz) hyr⟩ | exact ⟨relQ' HZ.out HR.out hzr L B hap, block_far (block_far (L.only.at HX.out (by simp)) hxr) hxz, block_far (block_far (L.only.at HY.out (by simp)) hyr) hyz⟩)
  case rest =>
    clear z1 r1 x1 y1 HD
    obtain ⟨⟨sq, sr, hz2, hr2, Q, R, hap⟩, hx2, hy2⟩ := hcut
    have c0 : wc.cell? ⟨pz, 0, none⟩ = some (.bool false) := cell_of hz2 0 rfl
    have cf : wc.frozen? ⟨pz, 0, none⟩ = false := free_of hz2 0
    have c1 : wc.cell? ⟨pz, 1, none⟩ = some sq := cell_of hz2 1 rfl
    have d0 : wc.cell? ⟨pr, 0, none⟩ = some (.bool false) := cell_of hr2 0 rfl
    have df : wc.frozen? ⟨pr, 0, none⟩ = false := free_of hr2 0
    have d1 : wc.cell? ⟨pr, 1, none⟩ = some sr := cell_of hr2 1 rfl
    have e0 : wc.cell? ⟨px, 0, none⟩ = some (.bool false) := cell_of hx2 0 rfl
    have g0 : wc.cell? ⟨py, 0, none⟩ = some (.bool false) := cell_of hy2 0 rfl
    have HZ2 := Lib.hid hz2
    have HR2 := Lib.hid hr2
    have c0' : ∀ v, (wc.setCell ⟨pr, 0, none⟩ v).cell? ⟨pz, 0, none⟩ = some (.bool false) := fun v => cell_of (block_far HZ2.out hzr) 0 rfl
    have cf' : ∀ v, (wc.setCell ⟨pr, 0, none⟩ v).frozen? ⟨pz, 0, none⟩ = false := fun v => free_of (block_far HZ2.out hzr) 0
    have d0' : ∀ v, (wc.setCell ⟨pz, 0, none⟩ v).cell? ⟨pr, 0, none⟩ = some (.bool false) := fun v => cell_of (block_far HR2.out (Ne.symm hzr)) 0 rfl
    have df' : ∀ v, (wc.setCell ⟨pz, 0, none⟩ v).frozen? ⟨pr, 0, none⟩ = false := fun v => free_of (block_far HR2.out (Ne.symm hzr)) 0
    clear hz2 hr2 hx2 hy2
    rcases Q.at_.shape with ⟨rfl, q0⟩ | ⟨b, c, rfl, _, q0, _, _, _⟩ <;> rcases R.at_.shape with ⟨rfl, r0⟩ | ⟨b', c', rfl, _, r0, _, _, _⟩
    all_goals (
      have hq' := q0
      have hr' := r0
      clear q0 r0
      go_wp2_with fail
      go_region
      all_goals (go_wp2_with fail; go_ret2; first | exact ⟨rfl, by simpa [hq', hr'] using RelQ.store _ _ HZ2.out HR2.out Q R hap hzr⟩ | exact ⟨rfl, by simpa [hq', hr'] using RelQ.store' _ _ HZ2.out HR2.out Q R hap hzr⟩))
set_option maxRecDepth 8000 in
set_option maxHeartbeats 2000000 in
theorem idivmodG (pz px py pr : Nat) (sx : Value) (o : Option Addr) (l c : Nat) (q r : Nat) (w : World)
    (hz : w.heap[pz]? = some (iob false (.slice none 0 0))) (hx : w.heap[px]? = some (iob false sx)) (hy : w.heap[py]? = some (iob false (.slice o l c))) (hr : w.heap[pr]? = some (iob false (.slice none 0 0)))
    (hzr : pz ≠ pr) (hxz : px ≠ pz) (hxr : px ≠ pr) (hyz : py ≠ pz) (hyr : py ≠ pr) 
    (hd : ∀ n, Calls Tryz.prog 83 #[.slice none 0 0, .pointer none, .slice none 0 0, sx, .slice o l c] (w.drewN n) fun e w' =>
      ∃ o l c o' l' c', e = .returned (.tuple #[.slice o l c, .slice o' l' c']) ∧ Makes w [] (.slice o l c) q w' ∧ Makes w [] (.slice o' l' c') r w' ∧ (∀ b ∈ sb (.slice o l c), b ∉ sb (.slice o' l' c'))) :
    Calls Tryz.prog 44 #[.pointer (some ⟨pz, 0, none⟩), .pointer (some ⟨px, 0, none⟩), .pointer (some ⟨py, 0, none⟩), .pointer (some ⟨pr, 0, none⟩)] w fun e w' =>
      e = .returned (.tuple #[.pointer (some ⟨pz, 0, none⟩), .pointer (some ⟨pr, 0, none⟩)]) ∧ RelQ w pz pr false false q r w' := by
  have z1 : w.cell? ⟨pz, 1, none⟩ = some (.slice none 0 0) := cell_of hz 1 rfl
  have y1 : w.cell? ⟨py, 1, none⟩ = some (.slice o l c) := cell_of hy 1 rfl
  have he := int_other pz py false false _ _ w (Ne.symm hyz) hz hy
  have he' := fun n => int_other pz py false false (.slice none 0 0) (.slice o l c) (w.drewN n) (Ne.symm hyz) hz hy
  have HQ : Hid (∀ n, Calls Tryz.prog 62 #[.pointer (some ⟨pz, 0, none⟩), .pointer (some ⟨px, 0, none⟩), .pointer (some ⟨py, 0, none⟩), .pointer (some ⟨pr, 0, none⟩)] (w.drewN n) fun e w' =>
      e = .returned (.tuple #[.pointer (some ⟨pz, 0, none⟩), .pointer (some ⟨pr, 0, none⟩)]) ∧ RelQ (w.drewN n) pz pr false false q r w') := Lib.hid fun n => by
    refine iquoG pz px py pr sx _ q r (w.drewN n) hz hx hy hr hzr hxz hxr hyz hyr (fun m => ?_)
    rw [World.drewN_drewN]
    refine (hd (n + m)).mono ?_
    rintro e w' ⟨o, l, c, o', l', c', rfl, Q, R, hap⟩
    exact ⟨o, l, c, o', l', c', rfl, ⟨Q.at_, Q.low, ⟨Q.only.os, Q.only.tape, Q.only.output, Q.only.size, Q.only.block⟩⟩, ⟨R.at_, R.low, ⟨R.only.os, R.only.tape, R.only.output, R.only.size, R.only.block⟩⟩, hap⟩
  clear hz hx hy hr hd
  go_enter Tryz.func44, Tryz.ntmps44
  go_wp2_with fail
  go_quiet ((first | (go_at_call 60; exact quiet_drawn (alias_nil _ _ _ _)) | (go_at_call 60; exact quiet_add_drawn (alias_nil _ _ _ _))))
  go_wp2_with (go_at_call 62; refine (HQ.out _).mono ?_; rintro e w' ⟨rfl, sq, sr, hz2, hr2, Q, R, hap⟩; have d0 : w'.cell? ⟨pr, 0, none⟩ = some (.bool false) := cell_of hr2 0 rfl)
  go_ret2
  exact ⟨rfl, sq, sr, hz2, hr2, Q.drawn, R.drawn, hap⟩
end Go.Proofs.YtmkcnpimlgjbhaaGreatDoor
