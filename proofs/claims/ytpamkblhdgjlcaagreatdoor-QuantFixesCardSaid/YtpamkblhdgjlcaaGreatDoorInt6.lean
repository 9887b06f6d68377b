/- Walk of math/big's DivMod into new Ints, by a number of one word, where the rest is not below nothing. -/
import Derived.Test.YtpamkblhdgjlcaaGreatDoorProg
import Derived.Test.YtpamkblhdgjlcaaGreatDoorBase
import Derived.Test.YtpamkblhdgjlcaaGreatDoorMem
import Derived.Test.YtpamkblhdgjlcaaGreatDoorInt1
import Derived.Test.YtpamkblhdgjlcaaGreatDoorInt4
import Derived.WalkKit
import Derived.WalkSpells
import Derived.WalkLawsBesides
import Derived.Handy
import Derived.Deep.QuietTactic
import Derived.BigQuiet
import Derived.LaidEqlPtr
set_option linter.unusedSimpArgs false
set_option linter.unusedVariables false
namespace Go.Proofs.YtpamkblhdgjlcaaGreatDoor
open Go.RowKit Go.Shelf

theorem quiet_drawn {P : Program} {f : FuncId} {args : Array Value} {w : World} {n : Nat} {v : Value}
    (h : Calls P f args (w.drewN n) fun e w' => e = .returned v ∧ ∃ m, w' = (w.drewN n).drewN m) : Calls P f args (w.drewN n) fun e w'' => e = .returned v ∧ ∃ m, w'' = w.drewN m :=
  h.mono fun _ _ ⟨he, m, hm⟩ => ⟨he, n + m, by rw [hm, World.drewN_drewN]⟩
theorem quiet_add_drawn {P : Program} {f : FuncId} {args : Array Value} {w : World} {a n : Nat} {v : Value}
    (h : Calls P f args (w.drewN (a + n)) fun e w' => e = .returned v ∧ ∃ m, w' = (w.drewN (a + n)).drewN m) : Calls P f args (w.drewN (a + n)) fun e w'' => e = .returned v ∧ ∃ m, w'' = w.drewN (a + m) :=
  h.mono fun _ _ ⟨he, m, hm⟩ => ⟨he, n + m, by rw [hm, World.drewN_drewN, Nat.add_assoc]⟩
set_option maxHeartbeats 1000000 in
theorem alias_nil (o : Option Addr) (l c : Nat) (w : World) :
    Calls Tryz.prog 77 #[.slice none 0 0, .slice o l c] w fun e w' => e = .returned (.bool false) ∧ ∃ n, w' = w.drewN n := by
  go_enter Tryz.func77, Tryz.ntmps77
  go_wp2_with fail
  go_quiet (fail)
  go_wp2_with fail
  go_ret
  exact ⟨rfl, _, rfl⟩
set_option maxRecDepth 8000 in
set_option maxHeartbeats 2000000 in
theorem idivmod (pz px py pr : Nat) (nx : Bool) (sx sy : Value) (x y : Nat) (w : World)
    (hz : w.heap[pz]? = some (iob false (.slice none 0 0))) (hx : w.heap[px]? = some (iob nx sx)) (hy : w.heap[py]? = some (iob false sy)) (hr : w.heap[pr]? = some (iob false (.slice none 0 0)))
    (hzr : pz ≠ pr) (hxz : px ≠ pz) (hxr : px ≠ pr) (hyz : py ≠ pz) (hyr : py ≠ pr) (hsx : NatAt w sx x) (hsy : NatAt w sy y) (h1 : 1 < y) (hq : x = 0 ∨ x / y ≠ 0) (hn : (nx && decide (x % y ≠ 0)) = false) :
    Calls Tryz.prog 53 #[.pointer (some ⟨pz, 0, none⟩), .pointer (some ⟨px, 0, none⟩), .pointer (some ⟨py, 0, none⟩), .pointer (some ⟨pr, 0, none⟩)] w fun e w' =>
      e = .returned (.tuple #[.pointer (some ⟨pz, 0, none⟩), .pointer (some ⟨pr, 0, none⟩)]) ∧ RelQ w pz pr (nx && decide (x / y ≠ 0)) false (x / y) (x % y) w' := by
  have z1 : w.cell? ⟨pz, 1, none⟩ = some (.slice none 0 0) := cell_of hz 1 rfl
  obtain ⟨o, l, c, rfl⟩ := hsy.isSlice
  have y1 : w.cell? ⟨py, 1, none⟩ = some (.slice o l c) := cell_of hy 1 rfl
  have he := int_other pz py false false _ _ w (Ne.symm hyz) hz hy
  have he' := fun n => int_other pz py false false (.slice none 0 0) (.slice o l c) (w.drewN n) (Ne.symm hyz) hz hy
  have HQ : Hid (∀ n, Calls Tryz.prog 79 #[.pointer (some ⟨pz, 0, none⟩), .pointer (some ⟨px, 0, none⟩), .pointer (some ⟨py, 0, none⟩), .pointer (some ⟨pr, 0, none⟩)] (w.drewN n) fun e w' =>
      e = .returned (.tuple #[.pointer (some ⟨pz, 0, none⟩), .pointer (some ⟨pr, 0, none⟩)]) ∧ RelQ (w.drewN n) pz pr (nx && decide (x / y ≠ 0)) false (x / y) (x % y) w') := Lib.hid fun n => by
    have h := iquo pz px py pr nx sx _ x y (w.drewN n) hz hx hy hr hzr hxz hxr hyz hyr (hsx.drewN n) (hsy.drewN n) h1 hq
    rwa [hn] at h
  clear hz hx hy hr hsx hsy h1 hq hn
  generalize (nx && decide (x / y ≠ 0)) = nq at HQ ⊢
  generalize x / y = q at HQ ⊢
  generalize x % y = r at HQ ⊢
  go_enter Tryz.func53, Tryz.ntmps53
  go_wp2_with fail
  go_quiet ((first | (go_at_call 77; exact quiet_drawn (alias_nil _ _ _ _)) | (go_at_call 77; exact quiet_add_drawn (alias_nil _ _ _ _))))
  go_wp2_with (go_at_call 79; refine (HQ.out _).mono ?_; rintro e w' ⟨rfl, sq, sr, hz2, hr2, Q, R, hap⟩; have d0 : w'.cell? ⟨pr, 0, none⟩ = some (.bool false) := cell_of hr2 0 rfl)
  go_ret2
  exact ⟨rfl, sq, sr, hz2, hr2, Q.drawn, R.drawn, hap⟩
end Go.Proofs.YtpamkblhdgjlcaaGreatDoor
