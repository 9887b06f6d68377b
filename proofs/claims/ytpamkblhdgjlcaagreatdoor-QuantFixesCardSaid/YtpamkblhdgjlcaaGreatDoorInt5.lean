/- Walks of math/big's Int.Lsh, Cmp, Bit and Int64 at the sizes that layer 25 needs. -/
import Derived.Test.YtpamkblhdgjlcaaGreatDoorProg
import Derived.Test.YtpamkblhdgjlcaaGreatDoorBase
import Derived.Test.YtpamkblhdgjlcaaGreatDoorMem
import Derived.Test.YtpamkblhdgjlcaaGreatDoorNat7
import Derived.Test.YtpamkblhdgjlcaaGreatDoorInt1
import Derived.Test.YtpamkblhdgjlcaaGreatDoorInt3
import Derived.WalkKit
import Derived.WalkSpells
import Derived.WalkLawsBesides
import Derived.Handy
import Derived.Deep.QuietTactic
import Derived.BigQuiet
import Derived.LaidEqlPtr
import Derived.Deep.CutRange
import Derived.BigRegion
set_option linter.unusedSimpArgs false
set_option linter.unusedVariables false
namespace Go.Proofs.YtpamkblhdgjlcaaGreatDoor
open Go.RowKit Go.Shelf

/-- behind the store of the digits, whatever slice they are -/
def RelS (w : World) (S : List Nat) (ps : Nat) (o : Bool) (v : Nat) (wx : World) : Prop :=
  ∃ s, wx.heap[ps]? = some (iob o s) ∧ Makes w (ps :: S) s v wx
theorem relS {w w1 : World} {S : List Nat} {ps : Nat} {o : Bool} {s0 s : Value} {v : Nat} (hs : w.heap[ps]? = some (iob o s0)) (hS : ps ∉ S)
    (L : Makes w S s v w1) : RelS w S ps o v (w1.setCell ⟨ps, 1, none⟩ s) := by
  have hb1 : w1.heap[ps]? = some (iob o s0) := L.only.at hs hS
  exact ⟨s, block_setCell hb1 1 _, L.at_.far (iob_apart hb1 L.at_), fun b hb => (L.low b hb).imp (fun h => by simp [h]) id, (L.only.mono (fun s hs => .inl (by simp [hs]))).setCell (.inl (by simp)) _⟩
theorem at1s {w : World} {p : Nat} {neg : Bool} {s : Value} (h : w.heap[p]? = some (iob neg s)) : w.cell? ⟨p, 1, none⟩ = some s ∧ w.frozen? ⟨p, 1, none⟩ = false := ⟨cell_of h 1 rfl, free_of h 1⟩

theorem RelS.store {w wx : World} {S : List Nat} {ps : Nat} {o : Bool} {v : Nat} {s : Value} (o' : Bool) (hb : wx.heap[ps]? = some (iob o s)) (M : Makes w (ps :: S) s v wx) : RelS w S ps o' v (wx.setCell ⟨ps, 0, none⟩ (.bool o')) :=
  ⟨s, block_setCell hb 0 _, M.at_.far (iob_apart hb M.at_), M.low, M.only.setCell (.inl (by simp)) _⟩
set_option maxHeartbeats 2000000 in
/-- twice an Int from nothing on, onto itself -/
theorem ilsh_self (pr : Nat) (sx : Value) (x : Nat) (w : World) (hx : w.heap[pr]? = some (iob false sx)) (hsx : NatAt w sx x) (h : 2 * x < 18446744073709551616) :
    Calls Tryz.prog 52 #[.pointer (some ⟨pr, 0, none⟩), .pointer (some ⟨pr, 0, none⟩), .int .u64 1] w fun e w' =>
      e = .returned (.pointer (some ⟨pr, 0, none⟩)) ∧ RelS w (sb sx) pr false (2 * x) w' := by
  have x0 : w.cell? ⟨pr, 0, none⟩ = some (.bool false) := cell_of hx 0 rfl
  have x1 : w.cell? ⟨pr, 1, none⟩ = some sx := cell_of hx 1 rfl
  have HM := Lib.hid (fun n => natTwice sx x w hsx h n)
  have hS : pr ∉ sb sx := fun hm => iob_apart hx hsx pr hm rfl
  have HX := Lib.hid hx
  clear hx hsx h
  generalize 2 * x = v at HM ⊢
  go_enter Tryz.func52, Tryz.ntmps52
  go_upto_region 1 with fail
  go_cut [] from 7 to 19 (fun wx => RelS w (sb sx) pr false v wx)
  case first =>
    go_region_with (first | (go_at_call 76; refine (HM.out _).mono ?_; rintro e w' ⟨o, l, c, rfl, L⟩; obtain ⟨z1', f1'⟩ := at1s (L.only.at HX.out hS)))
    all_goals (go_wp2_with fail; go_meet; exact relS HX.out hS L)
  case rest =>
    clear x0 x1 HM
    obtain ⟨s, hb2, M⟩ := hcut
    have c0 : wc.cell? ⟨pr, 0, none⟩ = some (.bool false) := cell_of hb2 0 rfl
    have cf : wc.frozen? ⟨pr, 0, none⟩ = false := free_of hb2 0
    have HB2 := Lib.hid hb2
    clear hb2
    go_wp2_with fail
    go_ret
    exact ⟨rfl, RelS.store false HB2.out M⟩
set_option maxHeartbeats 2000000 in
/-- 2^s, into a new Int -/
theorem ilsh_new (pz px s : Nat) (sx : Value) (w : World) (hz : w.heap[pz]? = some (iob false (.slice none 0 0))) (hx : w.heap[px]? = some (iob false sx)) (hsx : NatAt w sx 1) (hne : pz ≠ px) (hs : s = 1 ∨ s = 31) :
    Calls Tryz.prog 52 #[.pointer (some ⟨pz, 0, none⟩), .pointer (some ⟨px, 0, none⟩), .int .u64 s] w fun e w' =>
      e = .returned (.pointer (some ⟨pz, 0, none⟩)) ∧ RelS w [] pz false (2 ^ s) w' := by
  have z1 : w.cell? ⟨pz, 1, none⟩ = some (.slice none 0 0) := cell_of hz 1 rfl
  have x1 : w.cell? ⟨px, 1, none⟩ = some sx := cell_of hx 1 rfl
  have HM := Lib.hid (fun n => natUnit sx w hsx s hs n)
  have HX := Lib.hid hx
  have HZ := Lib.hid hz
  have hS : pz ∉ ([] : List Nat) := by simp
  clear hx hz hsx hs
  generalize 2 ^ s = v at HM ⊢
  go_enter Tryz.func52, Tryz.ntmps52
  go_upto_region 1 with fail
  go_cut [] from 7 to 19 (fun wx => RelS w [] pz false v wx ∧ wx.heap[px]? = some (iob false sx))
  case first =>
    go_region_with (first | (go_at_call 76; refine (HM.out _).mono ?_; rintro e w' ⟨o, l, c, rfl, L⟩; obtain ⟨z1', f1'⟩ := at1s (L.only.at HZ.out hS)))
    all_goals (go_wp2_with fail; go_meet; exact ⟨relS HZ.out hS L, block_far (L.only.at HX.out (by simp)) (Ne.symm hne)⟩)
  case rest =>
    clear z1 x1 HM
    obtain ⟨⟨s, hb2, M⟩, hx2⟩ := hcut
    have c0 : wc.cell? ⟨pz, 0, none⟩ = some (.bool false) := cell_of hb2 0 rfl
    have cf : wc.frozen? ⟨pz, 0, none⟩ = false := free_of hb2 0
    have d0 : wc.cell? ⟨px, 0, none⟩ = some (.bool false) := cell_of hx2 0 rfl
    have HB2 := Lib.hid hb2
    clear hb2 hx2
    go_wp2_with fail
    go_ret
    exact ⟨rfl, RelS.store false HB2.out M⟩

/-! comparing -/
set_option maxRecDepth 8000 in
set_option maxHeartbeats 1000000 in
theorem icmp_same (px py : Nat) (neg : Bool) (sx sy : Value) (x y : Nat) (w : World) (hx : w.heap[px]? = some (iob neg sx)) (hy : w.heap[py]? = some (iob neg sy)) (hsx : NatAt w sx x) (hsy : NatAt w sy y) (hne : px ≠ py) :
    Calls Tryz.prog 50 #[.pointer (some ⟨px, 0, none⟩), .pointer (some ⟨py, 0, none⟩)] w fun e w' =>
      e = .returned (.int .i64 (if neg then cmpI y x else cmpI x y)) ∧ ∃ n, w' = w.drewN n := by
  have x0 : w.cell? ⟨px, 0, none⟩ = some (.bool neg) := cell_of hx 0 rfl
  have x1 : w.cell? ⟨px, 1, none⟩ = some sx := cell_of hx 1 rfl
  have y0 : w.cell? ⟨py, 0, none⟩ = some (.bool neg) := cell_of hy 0 rfl
  have y1 : w.cell? ⟨py, 1, none⟩ = some sy := cell_of hy 1 rfl
  have hq := int_other px py neg neg sx sy w hne hx hy
  have HC : Hid (∀ n, Calls Tryz.prog 47 #[sx, sy] (w.drewN n) fun e w' => e = .returned (.int .i64 (cmpI x y)) ∧ ∃ m, w' = (w.drewN n).drewN m) :=
    Lib.hid (fun n => natCmp sx sy x y (w.drewN n) (hsx.drewN n) (hsy.drewN n))
  have hs : wrap64 (-(cmpI x y)) = cmpI y x := by
    unfold cmpI
    rcases Int.lt_trichotomy (x : Int) y with h | h | h
    · have h' : ¬ (y : Int) < x := by omega
      simp only [h, h', if_true, if_false]; decide +kernel
    · have h' : ¬ (y : Int) < x := by omega
      have h'' : ¬ (x : Int) < y := by omega
      simp only [h'', h', if_true, if_false]; decide +kernel
    · have h' : ¬ (x : Int) < y := by omega
      simp only [h, h', if_true, if_false]; decide +kernel
  have HW := Lib.hid hs
  have Q1 : ∀ (a n : Nat), Calls Tryz.prog 47 #[sx, sy] (w.drewN (a + n)) fun e w' => e = .returned (.int .i64 (cmpI x y)) ∧ ∃ m, w' = w.drewN (a + m) := fun a n => by
    refine (HC.out (a + n)).mono ?_
    rintro e w' ⟨rfl, m, rfl⟩
    exact ⟨rfl, n + m, by rw [World.drewN_drewN, Nat.add_assoc]⟩
  have H1 := Lib.hid Q1
  clear hx hy hsx hsy hs HC Q1
  generalize cmpI (x : Int) y = r at H1 HW ⊢
  generalize cmpI (y : Int) x = r' at H1 HW ⊢
  cases neg
  · go_enter Tryz.func50, Tryz.ntmps50
    go_wp2_with fail
    go_quiet (fail)
    go_wp2_with fail
    go_quiet ((first | (go_at_call 47; exact H1.out _ _)))
    go_wp2_with fail
    go_ret
    exact ⟨rfl, _, rfl⟩
  · go_enter Tryz.func50, Tryz.ntmps50
    go_wp2_with fail
    go_quiet (fail)
    go_wp2_with fail
    go_quiet ((first | (go_at_call 47; exact H1.out _ _)))
    go_wp2_with fail
    rw [HW.out]
    go_ret
    exact ⟨rfl, _, rfl⟩
set_option maxRecDepth 8000 in
set_option maxHeartbeats 1000000 in
theorem icmp_other (px py : Nat) (nx ny : Bool) (sx sy : Value) (w : World) (hx : w.heap[px]? = some (iob nx sx)) (hy : w.heap[py]? = some (iob ny sy)) (hn : nx = !ny) (hne : px ≠ py) :
    Calls Tryz.prog 50 #[.pointer (some ⟨px, 0, none⟩), .pointer (some ⟨py, 0, none⟩)] w fun e w' =>
      e = .returned (.int .i64 (if nx then -1 else 1)) ∧ ∃ n, w' = w.drewN n := by
  have x0 : w.cell? ⟨px, 0, none⟩ = some (.bool nx) := cell_of hx 0 rfl
  have y0 : w.cell? ⟨py, 0, none⟩ = some (.bool ny) := cell_of hy 0 rfl
  have hq := int_other px py nx ny sx sy w hne hx hy
  subst hn
  clear hx hy
  cases ny
  · go_enter Tryz.func50, Tryz.ntmps50
    go_wp2_with fail
    go_quiet (fail)
    go_wp2_with fail
    go_ret
    exact ⟨rfl, _, rfl⟩
  · go_enter Tryz.func50, Tryz.ntmps50
    go_wp2_with fail
    go_quiet (fail)
    go_wp2_with fail
    go_ret
    exact ⟨rfl, _, rfl⟩

/-! the lowest bit; the number itself -/
set_option maxHeartbeats 1000000 in
theorem ibit0 (px : Nat) (neg : Bool) (w : World) (hx : w.heap[px]? = some (iob neg (.slice none 0 0))) :
    Calls Tryz.prog 54 #[.pointer (some ⟨px, 0, none⟩), .int .i64 0] w fun e w' => e = .returned (.int .u64 0) ∧ w = w' := by
  have x1 : w.cell? ⟨px, 1, none⟩ = some (.slice none 0 0) := cell_of hx 1 rfl
  clear hx
  go_enter Tryz.func54, Tryz.ntmps54
  go_wp2_with fail
  go_ret
  exact ⟨rfl, rfl⟩
set_option maxHeartbeats 1000000 in
theorem ibit1 (px b c x : Nat) (neg : Bool) (w : World) (hx : w.heap[px]? = some (iob neg (.slice (some ⟨b, 0, none⟩) 1 c))) (hc : 1 ≤ c) (h : w.cell? ⟨b, 0, none⟩ = some (.int .u64 (x : Int))) (r : Int) (hb : bits .and .u64 (x : Int) 1 = r) :
    Calls Tryz.prog 54 #[.pointer (some ⟨px, 0, none⟩), .int .i64 0] w fun e w' => e = .returned (.int .u64 r) ∧ w = w' := by
  have x1 : w.cell? ⟨px, 1, none⟩ = some (.slice (some ⟨b, 0, none⟩) 1 c) := cell_of hx 1 rfl
  clear hx
  go_enter Tryz.func54, Tryz.ntmps54
  go_wp2_with fail
  go_ret
  exact ⟨rfl, rfl⟩
set_option maxHeartbeats 1000000 in
theorem low64_nil (w : World) : Calls Tryz.prog 75 #[.slice none 0 0] w fun e w' => e = .returned (.int .u64 0) ∧ w = w' := by
  go_enter Tryz.func75, Tryz.ntmps75
  go_wp2_with fail
  go_ret
  exact ⟨rfl, rfl⟩
set_option maxHeartbeats 1000000 in
theorem low64_one (b c : Nat) (x : Int) (w : World) (hc : 1 ≤ c) (h : w.cell? ⟨b, 0, none⟩ = some (.int .u64 x)) : Calls Tryz.prog 75 #[.slice (some ⟨b, 0, none⟩) 1 c] w fun e w' => e = .returned (.int .u64 x) ∧ w = w' := by
  go_enter Tryz.func75, Tryz.ntmps75
  go_wp2_with fail
  go_ret
  exact ⟨rfl, rfl⟩
theorem natLow (s : Value) (x : Nat) (w : World) (hs : NatAt w s x) : Calls Tryz.prog 75 #[s] w fun e w' => e = .returned (.int .u64 (x : Int)) ∧ w = w' := by
  rcases hs.shape with ⟨rfl, rfl⟩ | ⟨b, c, rfl, hc, _, _, h, _⟩
  · exact low64_nil w
  · exact low64_one b c x w hc h
set_option maxHeartbeats 1000000 in
theorem iint64 (px x : Nat) (neg : Bool) (s : Value) (w : World) (hx : w.heap[px]? = some (iob neg s)) (hs : NatAt w s x) (hl : x ≤ 9223372036854775807) :
    Calls Tryz.prog 51 #[.pointer (some ⟨px, 0, none⟩)] w fun e w' => e = .returned (.int .i64 (if neg then -(x : Int) else (x : Int))) ∧ w = w' := by
  have x0 : w.cell? ⟨px, 0, none⟩ = some (.bool neg) := cell_of hx 0 rfl
  have x1 : w.cell? ⟨px, 1, none⟩ = some s := cell_of hx 1 rfl
  have HL := Lib.hid (natLow s x w hs)
  have h1 : IntKind.i64.wrap (x : Int) = (x : Int) := by simp [IntKind.wrap, IntKind.bits, IntKind.signed]; omega
  have h2 : IntKind.i64.wrap (-(x : Int)) = -(x : Int) := by simp [IntKind.wrap, IntKind.bits, IntKind.signed]; omega
  clear hx hs hl
  cases neg
  · go_enter Tryz.func51, Tryz.ntmps51
    go_wp2_with (go_at_call 75; refine HL.out.mono ?_; rintro e w' ⟨rfl, rfl⟩)
    go_ret
    exact ⟨rfl, rfl⟩
  · go_enter Tryz.func51, Tryz.ntmps51
    go_wp2_with (go_at_call 75; refine HL.out.mono ?_; rintro e w' ⟨rfl, rfl⟩)
    go_ret
    exact ⟨rfl, rfl⟩
end Go.Proofs.YtpamkblhdgjlcaaGreatDoor
