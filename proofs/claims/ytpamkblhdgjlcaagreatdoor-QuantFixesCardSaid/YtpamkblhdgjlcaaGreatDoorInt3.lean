/- Walks of math/big's NewInt and Mul, and what Add answers, at the sizes and signs that layer 25 needs. -/
import Derived.Test.YtpamkblhdgjlcaaGreatDoorProg
import Derived.Test.YtpamkblhdgjlcaaGreatDoorBase
import Derived.Test.YtpamkblhdgjlcaaGreatDoorMem
import Derived.Test.YtpamkblhdgjlcaaGreatDoorInt1
import Derived.Test.YtpamkblhdgjlcaaGreatDoorInt2
import Derived.WalkKit
import Derived.WalkSpells
import Derived.WalkLawsBesides
import Derived.Handy
import Derived.Deep.QuietTactic
import Derived.BigQuiet
set_option linter.unusedSimpArgs false
set_option linter.unusedVariables false
namespace Go.Proofs.YtpamkblhdgjlcaaGreatDoor
open Go.RowKit Go.Shelf

/-- an Int in memory, all of whose blocks lie from B on -/
structure IntVal (w : World) (B p : Nat) (neg : Bool) (x : Nat) (s : Value) : Prop where
  cell : w.heap[p]? = some (iob neg s)
  nat : NatAt w s x
  low : B ≤ p
  lows : ∀ b ∈ sb s, B ≤ b
  sign : x = 0 → neg = false
theorem IntVal.size {w : World} {B p : Nat} {neg : Bool} {x : Nat} {s : Value} (h : IntVal w B p neg x s) : p < w.heap.size := lt_of_block h.cell
theorem IntVal.nil {w : World} {B p : Nat} {neg : Bool} {s : Value} (h : IntVal w B p neg 0 s) : s = .slice none 0 0 := by
  rcases h.nat.shape with ⟨h1, _⟩ | ⟨b, c, _, _, h0, _⟩
  · exact h1
  · exact absurd rfl h0
theorem IntVal.one {w : World} {B p : Nat} {neg : Bool} {x : Nat} {s : Value} (h : IntVal w B p neg x s) (h0 : x ≠ 0) : ∃ b c, s = .slice (some ⟨b, 0, none⟩) 1 c := by
  rcases h.nat.shape with ⟨_, h1⟩ | ⟨b, c, h1, _⟩
  · exact absurd h1 h0
  · exact ⟨b, c, h1⟩
/-- it stands where others are written that it does not lie in -/
theorem IntVal.only {w w' : World} {B p : Nat} {neg : Bool} {x : Nat} {s : Value} {S : List Nat} (h : IntVal w B p neg x s) (ho : Only S w w') (hp : p ∉ S) (hs : ∀ b ∈ sb s, b ∉ S) : IntVal w' B p neg x s :=
  ⟨ho.at h.cell hp, by
    cases h.nat with
    | nil => exact .nil
    | tight h h0 h1 => exact .tight (ho.at h (hs _ (by simp [sb]))) h0 h1
    | roomy h h0 h1 => exact .roomy (ho.at h (hs _ (by simp [sb]))) h0 h1, h.low, h.lows, h.sign⟩

set_option maxHeartbeats 400000 in
theorem newInt0 (w : World) : Calls Tryz.prog 28 #[.int .i64 0] w fun e w' => e = .returned (.pointer (some ⟨w.heap.size, 0, none⟩)) ∧ w' = w.alloc (iob false (.slice none 0 0)) := by
  go_enter Tryz.func28, Tryz.ntmps28
  go_wp2_with fail
  go_ret
  exact ⟨rfl, rfl⟩
set_option maxHeartbeats 400000 in
theorem newIntP (x : Nat) (h0 : x ≠ 0) (hl : x < 18446744073709551616) (w : World) : Calls Tryz.prog 28 #[.int .i64 x] w fun e w' => e = .returned (.pointer (some ⟨w.heap.size + 1, 0, none⟩)) ∧ w' = (w.alloc (.cells #[.int .u64 (x : Int)] 82 (0, 0))).alloc (iob false (.slice (some ⟨w.heap.size, 0, none⟩) 1 1)) := by
  have h1 : decide ((x : Int) < 0) = false := decide_eq_false (by omega)
  have h2 : ((x : Int) == 0) = false := by simp only [beq_eq_false_iff_ne, ne_eq]; omega
  have hw := wrap_small x hl
  clear hl h0
  go_enter Tryz.func28, Tryz.ntmps28
  go_wp2_with fail
  go_ret
  exact ⟨rfl, rfl⟩
set_option maxHeartbeats 400000 in
theorem newIntN (x : Nat) (h0 : x ≠ 0) (hl : x < 18446744073709551616) (w : World) : Calls Tryz.prog 28 #[.int .i64 (-(x : Int))] w fun e w' => e = .returned (.pointer (some ⟨w.heap.size + 1, 0, none⟩)) ∧ w' = (w.alloc (.cells #[.int .u64 (x : Int)] 82 (0, 0))).alloc (iob true (.slice (some ⟨w.heap.size, 0, none⟩) 1 1)) := by
  have h1 : decide (-(x : Int) < 0) = true := decide_eq_true (by omega)
  have h2 : (-(x : Int) == 0) = false := by simp only [beq_eq_false_iff_ne, ne_eq]; omega
  have hw : IntKind.u64.wrap (-(IntKind.u64.wrap (-(x : Int)))) = (x : Int) := by simp only [IntKind.wrap_u64]; omega
  have h3 : decide (0 < x) = true := decide_eq_true (by omega)
  clear hl
  go_enter Tryz.func28, Tryz.ntmps28
  go_wp2_with fail
  go_ret
  exact ⟨rfl, rfl⟩
theorem newInt (neg : Bool) (x : Nat) (hs : x = 0 → neg = false) (hl : x < 18446744073709551616) (w : World) :
    Calls Tryz.prog 28 #[.int .i64 (if neg then -(x : Int) else (x : Int))] w fun e w' => ∃ p s, e = .returned (.pointer (some ⟨p, 0, none⟩)) ∧ IntVal w' w.heap.size p neg x s ∧ Only [] w w' := by
  by_cases h0 : x = 0
  · subst h0
    rw [hs rfl]
    refine (newInt0 w).mono ?_
    rintro e w' ⟨rfl, rfl⟩
    exact ⟨_, _, rfl, ⟨block_new w _, .nil, Nat.le_refl _, by simp [sb], fun _ => rfl⟩, (Only.refl [] w).alloc _⟩
  · cases neg
    · refine (newIntP x h0 hl w).mono ?_
      rintro e w' ⟨rfl, rfl⟩
      exact ⟨_, _, rfl, ⟨by simpa using block_new (w.alloc (.cells #[.int .u64 (x : Int)] 82 (0, 0))) _, .tight (block_alloc (block_new w _)) h0 hl, by omega, by simp [sb], fun _ => rfl⟩, ((Only.refl [] w).alloc _).alloc _⟩
    · refine (newIntN x h0 hl w).mono ?_
      rintro e w' ⟨rfl, rfl⟩
      exact ⟨_, _, rfl, ⟨by simpa using block_new (w.alloc (.cells #[.int .u64 (x : Int)] 82 (0, 0))) _, .tight (block_alloc (block_new w _)) h0 hl, by omega, by simp [sb], fun h => absurd h h0⟩, ((Only.refl [] w).alloc _).alloc _⟩
set_option maxHeartbeats 1000000 in
/-- a product into a new Int -/
theorem intMul (pz px py B1 B2 : Nat) (nx ny : Bool) (sx sy : Value) (x y : Nat) (w : World)
    (hz : w.heap[pz]? = some (iob false (.slice none 0 0))) (hx : IntVal w B1 px nx x sx) (hy : IntVal w B2 py ny y sy) (hne : px ≠ py) (hzx : pz ≠ px) (hzy : pz ≠ py) (h : x * y < 18446744073709551616) :
    Calls Tryz.prog 27 #[.pointer (some ⟨pz, 0, none⟩), .pointer (some ⟨px, 0, none⟩), .pointer (some ⟨py, 0, none⟩)] w fun e w' =>
      e = .returned (.pointer (some ⟨pz, 0, none⟩)) ∧ ∃ s, IntVal w' pz pz ((nx != ny) && decide (x * y ≠ 0)) (x * y) s ∧ (∀ b ∈ sb s, w.heap.size ≤ b) ∧ Only [pz] w w' := by
  have hlt := lt_of_block hz
  by_cases h0 : x * y = 0
  · have HM := Lib.hid (imul0 pz px py nx ny sx sy x y w hz hx.cell hy.cell hne hzx hzy hx.nat hy.nat h0)
    clear hz hx hy
    go_enter Tryz.func27, Tryz.ntmps27
    go_wp2_with (go_at_call 49; refine HM.out.mono ?_; rintro e w' ⟨rfl, hb, ho⟩)
    go_ret
    rw [h0]
    exact ⟨rfl, _, ⟨by simpa using hb, .nil, Nat.le_refl _, by simp [sb], by simp⟩, by simp [sb], ho⟩
  · have HM := Lib.hid (imul1 pz px py nx ny sx sy x y w hz hx.cell hy.cell hne hzx hzy hx.nat hy.nat h h0)
    clear hz hx hy
    go_enter Tryz.func27, Tryz.ntmps27
    go_wp2_with (go_at_call 49; refine HM.out.mono ?_; rintro e w' ⟨rfl, b, c, hb, hn, hl, ho⟩)
    go_ret
    exact ⟨rfl, _, ⟨by simpa [h0] using hb, hn, Nat.le_refl _, by simp [sb]; omega, fun h => absurd h h0⟩, by simpa [sb] using hl, ho⟩
/-- a sum onto the first: of one sign, or one of the two nothing -/
theorem intAdd (ps py B B2 : Nat) (nx ny : Bool) (sx sy : Value) (x y : Nat) (w : World) (hx : IntVal w B ps nx x sx) (hy : IntVal w B2 py ny y sy) (hs : nx = ny ∨ x = 0 ∨ y = 0) (h : x + y < 18446744073709551616) (hB : B ≤ w.heap.size) :
    Calls Tryz.prog 26 #[.pointer (some ⟨ps, 0, none⟩), .pointer (some ⟨ps, 0, none⟩), .pointer (some ⟨py, 0, none⟩)] w fun e w' =>
      e = .returned (.pointer (some ⟨ps, 0, none⟩)) ∧ ∃ s, IntVal w' B ps (nx || ny) (x + y) s ∧ (∀ b ∈ sb s, b ∈ sb sx ∨ w.heap.size ≤ b) ∧ Only (ps :: sb sx) w w' := by
  have fin : ∀ (S : List Nat) (v : Nat) (w' : World), S ⊆ sb sx → v = x + y → x + y ≠ 0 → RelA w S ps (nx || ny) v w' →
      ∃ s, IntVal w' B ps (nx || ny) (x + y) s ∧ (∀ b ∈ sb s, b ∈ sb sx ∨ w.heap.size ≤ b) ∧ Only (ps :: sb sx) w w' := by
    rintro S v w' hS rfl h0 ⟨b, c, hb, ho, hn, hl⟩
    have hl' : b ∈ sb sx ∨ w.heap.size ≤ b := hl.imp (fun h => hS h) id
    exact ⟨_, ⟨hb, hn, hx.low, by
      simp only [sb, List.mem_singleton, forall_eq]
      rcases hl' with h' | h'
      · exact hx.lows b h'
      · omega, fun h' => absurd h' h0⟩, by simpa [sb] using hl', ho.mono (fun s hs => by
        rcases List.mem_cons.1 hs with rfl | h'
        · exact .inl (by simp)
        · exact .inl (by simp [hS h']))⟩
  by_cases h0 : x + y = 0
  · obtain ⟨rfl, rfl⟩ : x = 0 ∧ y = 0 := by omega
    have := hx.nil
    have := hy.nil
    subst_vars
    have e1 := hx.sign rfl
    have e2 := hy.sign rfl
    subst e1; subst e2
    refine (iadd_zero ps py w hx.cell hy.cell).mono ?_
    rintro e w' ⟨rfl, hb, ho⟩
    exact ⟨rfl, _, ⟨hb, .nil, hx.low, by simp [sb], fun _ => rfl⟩, by simp [sb], by simpa [sb] using ho⟩
  · by_cases hn : nx = ny
    · subst hn
      refine (iadd_same ps py nx sx sy x y w hx.cell hy.cell hx.nat hy.nat h h0).mono ?_
      rintro e w' ⟨rfl, hr⟩
      refine ⟨rfl, fin _ _ w' (fun _ h => h) rfl h0 (by simpa using hr)⟩
    · by_cases hx0 : x = 0
      · subst hx0
        have := hx.nil
        subst this
        have e1 := hx.sign rfl
        subst e1
        have e2 : ny = true := by cases ny <;> simp_all
        subst e2
        have hy0 : y ≠ 0 := by omega
        obtain ⟨b, c, rfl⟩ := hy.one hy0
        refine (iadd_first ps py b c y w hx.cell hy.cell hy.nat hy0).mono ?_
        rintro e w' ⟨rfl, hr⟩
        exact ⟨rfl, fin [] y w' (by simp) (by simp) h0 hr⟩
      · have hy0 : y = 0 := by
          rcases hs with h' | h' | h'
          · exact absurd h' hn
          · exact absurd h' hx0
          · exact h'
        subst hy0
        have := hy.nil
        subst this
        have e1 := hy.sign rfl
        subst e1
        have e2 : nx = true := by cases nx <;> simp_all
        subst e2
        obtain ⟨b, c, rfl⟩ := hx.one hx0
        refine (iadd_keep ps py b c x w hx.cell hy.cell hx.nat hx0 trivial).mono ?_
        rintro e w' ⟨rfl, hr⟩
        exact ⟨rfl, fin _ x w' (fun _ h => h) rfl h0 hr⟩
end Go.Proofs.YtpamkblhdgjlcaaGreatDoor
