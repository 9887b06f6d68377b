/- Walks of math/big's Int.Add onto the first, at the sizes and signs that layer 25 needs. -/
import Derived.Test.YtpamkblhdgjlcaaGreatDoorProg
import Derived.Test.YtpamkblhdgjlcaaGreatDoorBase
import Derived.Test.YtpamkblhdgjlcaaGreatDoorNat3
import Derived.Test.YtpamkblhdgjlcaaGreatDoorMem
import Derived.WalkKit
import Derived.WalkSpells
import Derived.WalkLawsBesides
import Derived.Handy
import Derived.Deep.QuietTactic
import Derived.BigQuiet
import Derived.LaidEqlPtr
import Derived.Deep.CutRange
import Derived.BigRegion
import Derived.Deep.RegionLaw
set_option linter.unusedSimpArgs false
set_option linter.unusedVariables false
namespace Go.Proofs.YtpamkblhdgjlcaaGreatDoor
open Go.RowKit Go.Shelf

/-- behind the store of the digits -/
def RelA (w : World) (S : List Nat) (ps : Nat) (o : Bool) (v : Nat) (wx : World) : Prop :=
  ∃ b c, wx.heap[ps]? = some (iob o (.slice (some ⟨b, 0, none⟩) 1 c)) ∧ Only (ps :: S) w wx ∧ NatAt wx (.slice (some ⟨b, 0, none⟩) 1 c) v ∧ (b ∈ S ∨ w.heap.size ≤ b)
theorem relA {w w1 : World} {S : List Nat} {ps : Nat} {o : Bool} {s0 : Value} {v b c : Nat} (hs : w.heap[ps]? = some (iob o s0)) (hS : ps ∉ S)
    (L : Makes w S (.slice (some ⟨b, 0, none⟩) 1 c) v w1) : RelA w S ps o v (w1.setCell ⟨ps, 1, none⟩ (.slice (some ⟨b, 0, none⟩) 1 c)) := by
  have hb1 : w1.heap[ps]? = some (iob o s0) := L.only.at hs hS
  have hlow := L.low b (by simp [sb])
  exact ⟨b, c, block_setCell hb1 1 _, (L.only.mono (fun s hs => .inl (by simp [hs]))).setCell (.inl (by simp)) _, L.at_.far (iob_apart hb1 L.at_), hlow⟩
theorem RelA.store {w wx : World} {S : List Nat} {ps : Nat} {o : Bool} {v : Nat} {b c : Nat} (o' : Bool) (hb : wx.heap[ps]? = some (iob o (.slice (some ⟨b, 0, none⟩) 1 c))) (ho : Only (ps :: S) w wx) (hn : NatAt wx (.slice (some ⟨b, 0, none⟩) 1 c) v) (hl : b ∈ S ∨ w.heap.size ≤ b) (n : Nat) :
    RelA w S ps o' v ((wx.setCell ⟨ps, 0, none⟩ (.bool o')).drewN n) :=
  ⟨b, c, block_setCell hb 0 _, (ho.setCell (.inl (by simp)) _).drewN n, (hn.far (iob_apart hb hn)).drewN n, hl⟩
theorem apart_sb {w : World} {p x : Nat} {neg : Bool} {t s : Value} (h : w.heap[p]? = some (iob neg t)) (hs : NatAt w s x) : p ∉ sb s := fun hm => iob_apart h hs p hm rfl
theorem at1 {w : World} {p : Nat} {neg : Bool} {s : Value} (h : w.heap[p]? = some (iob neg s)) : w.cell? ⟨p, 1, none⟩ = some s ∧ w.frozen? ⟨p, 1, none⟩ = false := ⟨cell_of h 1 rfl, free_of h 1⟩

set_option maxHeartbeats 2000000 in
/-- one sign; the sum is something -/
theorem iadd_same (ps py : Nat) (nx : Bool) (sx sy : Value) (x y : Nat) (w : World)
    (hx : w.heap[ps]? = some (iob nx sx)) (hy : w.heap[py]? = some (iob nx sy)) (hsx : NatAt w sx x) (hsy : NatAt w sy y) (h : x + y < 18446744073709551616) (h0 : x + y ≠ 0) :
    Calls Tryz.prog 26 #[.pointer (some ⟨ps, 0, none⟩), .pointer (some ⟨ps, 0, none⟩), .pointer (some ⟨py, 0, none⟩)] w fun e w' =>
      e = .returned (.pointer (some ⟨ps, 0, none⟩)) ∧ RelA w (sb sx) ps nx (x + y) w' := by
  have x0 : w.cell? ⟨ps, 0, none⟩ = some (.bool nx) := cell_of hx 0 rfl
  have x1 : w.cell? ⟨ps, 1, none⟩ = some sx := cell_of hx 1 rfl
  have y0 : w.cell? ⟨py, 0, none⟩ = some (.bool nx) := cell_of hy 0 rfl
  have y1 : w.cell? ⟨py, 1, none⟩ = some sy := cell_of hy 1 rfl
  have HM := Lib.hid (fun n => natAdd1 sx sy x y w hsx hsy h h0 n)
  have hS : ps ∉ (sb sx) := apart_sb hx hsx
  have HX := Lib.hid hx
  clear hx hy hsy hsx h h0
  go_enter Tryz.func26, Tryz.ntmps26
  go_wp2_with fail
  go_quiet (fail)
  go_upto_region 3 with fail
  go_cut [] from 21 to 36 (fun wx => RelA w (sb sx) ps nx (x + y) wx)
  case first =>
    go_region_with (first | (go_at_call 46; refine (HM.out _).mono ?_; rintro e w' ⟨b, c, rfl, L⟩; obtain ⟨z1', f1'⟩ := at1 (L.only.at HX.out hS)))
    all_goals (go_wp2_with fail; go_meet; exact relA HX.out hS L)
  case rest =>
    clear x0 x1 y0 y1 HM
    obtain ⟨b, c, hb2, ho2, hn2, hlow⟩ := hcut
    have c1 : wc.cell? ⟨ps, 1, none⟩ = some (.slice (some ⟨b, 0, none⟩) 1 c) := cell_of hb2 1 rfl
    have c0 : wc.cell? ⟨ps, 0, none⟩ = some (.bool nx) := cell_of hb2 0 rfl
    have cf : wc.frozen? ⟨ps, 0, none⟩ = false := free_of hb2 0
    have HB2 := Lib.hid hb2
    clear hb2
    go_wp2_with fail
    go_ret
    exact ⟨rfl, RelA.store nx HB2.out ho2 hn2 hlow 0⟩

set_option maxHeartbeats 2000000 in
/-- nothing and a number below nothing -/
theorem iadd_first (ps py a cy : Nat) (y : Nat) (w : World)
    (hx : w.heap[ps]? = some (iob false (.slice none 0 0))) (hy : w.heap[py]? = some (iob true (.slice (some ⟨a, 0, none⟩) 1 cy))) (hsy : NatAt w (.slice (some ⟨a, 0, none⟩) 1 cy) y) (h0 : y ≠ 0) :
    Calls Tryz.prog 26 #[.pointer (some ⟨ps, 0, none⟩), .pointer (some ⟨ps, 0, none⟩), .pointer (some ⟨py, 0, none⟩)] w fun e w' =>
      e = .returned (.pointer (some ⟨ps, 0, none⟩)) ∧ RelA w [] ps true y w' := by
  have x0 : w.cell? ⟨ps, 0, none⟩ = some (.bool false) := cell_of hx 0 rfl
  have x1 : w.cell? ⟨ps, 1, none⟩ = some (.slice none 0 0) := cell_of hx 1 rfl
  have y0 : w.cell? ⟨py, 0, none⟩ = some (.bool true) := cell_of hy 0 rfl
  have y1 : w.cell? ⟨py, 1, none⟩ = some (.slice (some ⟨a, 0, none⟩) 1 cy) := cell_of hy 1 rfl
  have HM := Lib.hid (fun n => natSubN1 _ y w hsy h0 n)
  have hS : ps ∉ [] := by simp
  have HX := Lib.hid hx
  clear hx hy hsy h0
  go_enter Tryz.func26, Tryz.ntmps26
  go_wp2_with fail
  go_quiet (fail)
  go_wp2_with fail
  go_quiet ((first | (go_at_call 47; exact quiet_left (cmp_less _ _ _)) | (go_at_call 47; exact quiet_add_left (cmp_less _ _ _))))
  go_wp2_with fail
  go_upto_region 7 with fail
  go_cut [] from 65 to 80 (fun wx => RelA w [] ps false y wx)
  case first =>
    go_region_with (first | (go_at_call 48; refine (HM.out _).mono ?_; rintro e w' ⟨b, c, rfl, L⟩; obtain ⟨z1', f1'⟩ := at1 (L.only.at HX.out hS)))
    all_goals (go_wp2_with fail; go_meet; exact relA HX.out hS L)
  case rest =>
    clear x0 x1 y0 y1 HM
    obtain ⟨b, c, hb2, ho2, hn2, hlow⟩ := hcut
    have c1 : wc.cell? ⟨ps, 1, none⟩ = some (.slice (some ⟨b, 0, none⟩) 1 c) := cell_of hb2 1 rfl
    have c0 : wc.cell? ⟨ps, 0, none⟩ = some (.bool false) := cell_of hb2 0 rfl
    have cf : wc.frozen? ⟨ps, 0, none⟩ = false := free_of hb2 0
    have HB2 := Lib.hid hb2
    clear hb2
    go_wp2_with fail
    go_ret
    exact ⟨rfl, RelA.store true HB2.out ho2 hn2 hlow 0⟩

set_option maxHeartbeats 2000000 in
/-- a number below nothing, and nothing -/
theorem iadd_keep (ps py a cx : Nat) (x : Nat) (w : World)
    (hx : w.heap[ps]? = some (iob true (.slice (some ⟨a, 0, none⟩) 1 cx))) (hy : w.heap[py]? = some (iob false (.slice none 0 0))) (hsx : NatAt w (.slice (some ⟨a, 0, none⟩) 1 cx) x) (h0 : x ≠ 0) (hsy : True) :
    Calls Tryz.prog 26 #[.pointer (some ⟨ps, 0, none⟩), .pointer (some ⟨ps, 0, none⟩), .pointer (some ⟨py, 0, none⟩)] w fun e w' =>
      e = .returned (.pointer (some ⟨ps, 0, none⟩)) ∧ RelA w (sb (.slice (some ⟨a, 0, none⟩) 1 cx)) ps true x w' := by
  have x0 : w.cell? ⟨ps, 0, none⟩ = some (.bool true) := cell_of hx 0 rfl
  have x1 : w.cell? ⟨ps, 1, none⟩ = some (.slice (some ⟨a, 0, none⟩) 1 cx) := cell_of hx 1 rfl
  have y0 : w.cell? ⟨py, 0, none⟩ = some (.bool false) := cell_of hy 0 rfl
  have y1 : w.cell? ⟨py, 1, none⟩ = some (.slice none 0 0) := cell_of hy 1 rfl
  have HM := Lib.hid (fun n => natSub1 _ x w hsx h0 n)
  have hS : ps ∉ (sb (.slice (some ⟨a, 0, none⟩) 1 cx)) := apart_sb hx hsx
  have HX := Lib.hid hx
  clear hx hy hsy hsx h0
  go_enter Tryz.func26, Tryz.ntmps26
  go_wp2_with fail
  go_quiet (fail)
  go_wp2_with fail
  go_quiet ((first | (go_at_call 47; exact quiet_left (cmp_more _ _ _)) | (go_at_call 47; exact quiet_add_left (cmp_more _ _ _))))
  go_wp2_with fail
  go_upto_region 5 with fail
  go_cut [] from 47 to 62 (fun wx => RelA w (sb (.slice (some ⟨a, 0, none⟩) 1 cx)) ps true x wx)
  case first =>
    go_region_with (first | (go_at_call 48; refine (HM.out _).mono ?_; rintro e w' ⟨b, c, rfl, L⟩; obtain ⟨z1', f1'⟩ := at1 (L.only.at HX.out hS)))
    all_goals (go_wp2_with fail; go_meet; exact relA HX.out hS L)
  case rest =>
    clear x0 x1 y0 y1 HM
    obtain ⟨b, c, hb2, ho2, hn2, hlow⟩ := hcut
    have c1 : wc.cell? ⟨ps, 1, none⟩ = some (.slice (some ⟨b, 0, none⟩) 1 c) := cell_of hb2 1 rfl
    have c0 : wc.cell? ⟨ps, 0, none⟩ = some (.bool true) := cell_of hb2 0 rfl
    have cf : wc.frozen? ⟨ps, 0, none⟩ = false := free_of hb2 0
    have HB2 := Lib.hid hb2
    clear hb2
    go_wp2_with fail
    go_ret
    exact ⟨rfl, RelA.store true HB2.out ho2 hn2 hlow 0⟩

set_option maxHeartbeats 2000000 in
/-- nothing and nothing -/
theorem iadd_zero (ps py : Nat) (w : World) (hx : w.heap[ps]? = some (iob false (.slice none 0 0))) (hy : w.heap[py]? = some (iob false (.slice none 0 0))) :
    Calls Tryz.prog 26 #[.pointer (some ⟨ps, 0, none⟩), .pointer (some ⟨ps, 0, none⟩), .pointer (some ⟨py, 0, none⟩)] w fun e w' =>
      e = .returned (.pointer (some ⟨ps, 0, none⟩)) ∧ w'.heap[ps]? = some (iob false (.slice none 0 0)) ∧ Only [ps] w w' := by
  have x0 : w.cell? ⟨ps, 0, none⟩ = some (.bool false) := cell_of hx 0 rfl
  have x1 : w.cell? ⟨ps, 1, none⟩ = some (.slice none 0 0) := cell_of hx 1 rfl
  have f1 : w.frozen? ⟨ps, 1, none⟩ = false := free_of hx 1
  have y0 : w.cell? ⟨py, 0, none⟩ = some (.bool false) := cell_of hy 0 rfl
  have y1 : w.cell? ⟨py, 1, none⟩ = some (.slice none 0 0) := cell_of hy 1 rfl
  have HM := Lib.hid (fun n => natAdd0 w n)
  have HX := Lib.hid hx
  clear hx hy
  go_enter Tryz.func26, Tryz.ntmps26
  go_wp2_with fail
  go_quiet (fail)
  go_upto_region 3 with fail
  go_cut [] from 21 to 36 (fun wx => wx.heap[ps]? = some (iob false (.slice none 0 0)) ∧ Only [ps] w wx)
  case first =>
    go_region_with (first | (go_at_call 46; refine (HM.out _).mono ?_; rintro e w' ⟨rfl, rfl⟩))
    all_goals (go_wp2_with fail; go_meet; exact ⟨block_setCell HX.out 1 _, ((Only.refl _ w).setCell (.inl (by simp)) _).drewN _⟩)
  case rest =>
    clear x0 x1 f1 y0 y1 HM
    obtain ⟨hb2, ho2⟩ := hcut
    have c1 : wc.cell? ⟨ps, 1, none⟩ = some (.slice none 0 0) := cell_of hb2 1 rfl
    have c0 : wc.cell? ⟨ps, 0, none⟩ = some (.bool false) := cell_of hb2 0 rfl
    have cf : wc.frozen? ⟨ps, 0, none⟩ = false := free_of hb2 0
    have HB2 := Lib.hid hb2
    clear hb2
    go_wp2_with fail
    go_ret
    exact ⟨rfl, block_setCell HB2.out 0 _, ho2.setCell (.inl (by simp)) _⟩
set_option maxHeartbeats 2000000 in
/-- two numbers above nothing, whose sum wants a second word -/
theorem iadd_carry (ps py a : Nat) (sy : Value) (x y : Nat) (c1 c2 c3 c4 c5 : Value) (w : World) (hx : w.heap[ps]? = some (iob false (.slice (some ⟨a, 0, none⟩) 1 6))) (hy : w.heap[py]? = some (iob false sy))
    (ha : w.heap[a]? = some (room (x : Int) c1 c2 c3 c4 c5)) (hsy : NatAt w sy y) (h : 18446744073709551616 ≤ x + y) (hxl : x < 18446744073709551616) :
    Calls Tryz.prog 26 #[.pointer (some ⟨ps, 0, none⟩), .pointer (some ⟨ps, 0, none⟩), .pointer (some ⟨py, 0, none⟩)] w fun e w' =>
      e = .returned (.pointer (some ⟨ps, 0, none⟩)) ∧ w'.heap[ps]? = some (iob false (.slice (some ⟨a, 0, none⟩) 2 6)) ∧ w'.heap[a]? = some (room (lo64 (x + y)) (.int .u64 (hi64 (x + y))) c2 c3 c4 c5) ∧ Only [ps, a] w w' := by
  have x0 : w.cell? ⟨ps, 0, none⟩ = some (.bool false) := cell_of hx 0 rfl
  have x1 : w.cell? ⟨ps, 1, none⟩ = some (.slice (some ⟨a, 0, none⟩) 1 6) := cell_of hx 1 rfl
  have y0 : w.cell? ⟨py, 0, none⟩ = some (.bool false) := cell_of hy 0 rfl
  have y1 : w.cell? ⟨py, 1, none⟩ = some sy := cell_of hy 1 rfl
  have hap : ps ≠ a := fun e => by
    subst e
    rw [hx] at ha
    simp [iob, room] at ha
  have hyl := hsy.small
  have hh : (hi64 ((x : Int) + (y : Int)) == 0) = false := by
    simp only [beq_eq_false_iff_ne, ne_eq, hi64]; omega
  obtain ⟨b, cy, rfl, hcy, hyc⟩ : ∃ b c, sy = .slice (some ⟨b, 0, none⟩) 1 c ∧ 1 ≤ c ∧ w.cell? ⟨b, 0, none⟩ = some (.int .u64 (y : Int)) := by
    rcases hsy.shape with ⟨_, h1⟩ | ⟨b, c, h1, h2, _, _, h3, _⟩
    · omega
    · exact ⟨b, c, h1, h2, h3⟩
  have HM := Lib.hid (fun n => add_in2 a b cy x y c1 c2 c3 c4 c5 (w.drewN n) (by omega) (by omega) hh hcy ha hyc)
  have HX := Lib.hid hx
  have hS : ps ∉ [a] := by simpa using hap
  clear hx hy hsy h hxl hyl hh ha hyc
  generalize hi64 ((x : Int) + (y : Int)) = hi at HM ⊢
  generalize lo64 ((x : Int) + (y : Int)) = lo at HM ⊢
  go_enter Tryz.func26, Tryz.ntmps26
  go_wp2_with fail
  go_quiet (fail)
  go_upto_region 3 with fail
  go_cut [] from 21 to 36 (fun wx => wx.heap[ps]? = some (iob false (.slice (some ⟨a, 0, none⟩) 2 6)) ∧ wx.heap[a]? = some (room lo (.int .u64 hi) c2 c3 c4 c5) ∧ Only [ps, a] w wx)
  case first =>
    go_region_with (first | (go_at_call 46; refine (HM.out _).mono ?_; rintro e w' ⟨rfl, ho, hb⟩; obtain ⟨z1', f1'⟩ := at1 (ho.at HX.out hS)))
    all_goals (go_wp2_with fail; go_meet; exact ⟨block_setCell (ho.at HX.out hS) 1 _, block_far hb (Ne.symm hap), ((Only.drewN (Only.refl [ps, a] w) _).then ho (by simp)).setCell (.inl (by simp)) _⟩)
  case rest =>
    clear x0 x1 y0 y1 HM
    obtain ⟨hb2, ha2, ho2⟩ := hcut
    have c1 : wc.cell? ⟨ps, 1, none⟩ = some (.slice (some ⟨a, 0, none⟩) 2 6) := cell_of hb2 1 rfl
    have c0 : wc.cell? ⟨ps, 0, none⟩ = some (.bool false) := cell_of hb2 0 rfl
    have cf : wc.frozen? ⟨ps, 0, none⟩ = false := free_of hb2 0
    have HB2 := Lib.hid hb2
    have HA2 := Lib.hid ha2
    clear hb2 ha2
    go_wp2_with fail
    go_ret
    exact ⟨rfl, block_setCell HB2.out 0 _, block_far HA2.out (Ne.symm hap), ho2.setCell (.inl (by simp)) _⟩
end Go.Proofs.YtpamkblhdgjlcaaGreatDoor
