/- Naturals below 2^64 and big.Ints as they lie in memory; what math/big's naturals answer, by what lies there. -/
import Derived.Test.YtpamkblhdgjlcaaGreatDoorProg
import Derived.Test.YtpamkblhdgjlcaaGreatDoorBase
import Derived.Test.YtpamkblhdgjlcaaGreatDoorNat3
import Derived.Test.YtpamkblhdgjlcaaGreatDoorNat4
import Derived.Test.YtpamkblhdgjlcaaGreatDoorNat6
import Derived.WalkSmall
set_option linter.unusedSimpArgs false
set_option linter.unusedVariables false
namespace Go.Proofs.YtpamkblhdgjlcaaGreatDoor
open Go.RowKit Go.Shelf

/-- the blocks behind a slice -/
def sb : Value → List Nat
  | .slice (some a) _ _ => [a.block]
  | _ => []

/-- a natural below 2^64 in memory: nothing; one word without room; one word with room for five more -/
inductive NatAt (w : World) : Value → Nat → Prop
  | nil : NatAt w (.slice none 0 0) 0
  | tight {b x : Nat} : w.heap[b]? = some (.cells #[.int .u64 (x : Int)] 82 (0, 0)) → x ≠ 0 → x < 18446744073709551616 → NatAt w (.slice (some ⟨b, 0, none⟩) 1 1) x
  | roomy {b x : Nat} {c1 c2 c3 c4 c5 : Value} : w.heap[b]? = some (room (x : Int) c1 c2 c3 c4 c5) → x ≠ 0 → x < 18446744073709551616 → NatAt w (.slice (some ⟨b, 0, none⟩) 1 6) x

theorem NatAt.frame {w w' : World} {s : Value} {x B : Nat} (h : NatAt w s x) (hb : ∀ b ∈ sb s, b < B) (hw : Below B w w') : NatAt w' s x := by
  cases h with
  | nil => exact .nil
  | tight h h0 h1 => exact .tight ((hw.block _ (hb _ (by simp [sb]))).trans h) h0 h1
  | roomy h h0 h1 => exact .roomy ((hw.block _ (hb _ (by simp [sb]))).trans h) h0 h1
theorem NatAt.lt {w : World} {s : Value} {x : Nat} (h : NatAt w s x) : ∀ b ∈ sb s, b < w.heap.size := by
  cases h with
  | nil => intro b hb; simp [sb] at hb
  | tight h h0 h1 => intro b hb; simp [sb] at hb; subst hb; exact lt_of_block h
  | roomy h h0 h1 => intro b hb; simp [sb] at hb; subst hb; exact lt_of_block h
theorem NatAt.small {w : World} {s : Value} {x : Nat} (h : NatAt w s x) : x < 18446744073709551616 := by
  cases h with
  | nil => decide
  | tight h h0 h1 => exact h1
  | roomy h h0 h1 => exact h1
/-- nothing, or one word: what the walks ask of it -/
theorem NatAt.shape {w : World} {s : Value} {x : Nat} (h : NatAt w s x) :
    (s = .slice none 0 0 ∧ x = 0) ∨ ∃ b c, s = .slice (some ⟨b, 0, none⟩) 1 c ∧ 1 ≤ c ∧ x ≠ 0 ∧ b < w.heap.size ∧ w.cell? ⟨b, 0, none⟩ = some (.int .u64 (x : Int)) ∧ w.frozen? ⟨b, 0, none⟩ = false := by
  cases h with
  | nil => exact .inl ⟨rfl, rfl⟩
  | tight h h0 h1 => exact .inr ⟨_, _, rfl, by decide, h0, lt_of_block h, cell_of h 0 rfl, free_of h 0⟩
  | roomy h h0 h1 => exact .inr ⟨_, _, rfl, by decide, h0, lt_of_block h, cell_of h 0 rfl, free_of h 0⟩

/-- what a call leaves: a natural in blocks from B on -/
structure Leaves (w : World) (B : Nat) (s : Value) (x : Nat) (w' : World) : Prop where
  at_ : NatAt w' s x
  low : ∀ b ∈ sb s, B ≤ b
  below : Below B w w'

theorem below_self (w : World) : Below w.heap.size w w := ⟨rfl, rfl, rfl, Nat.le_refl _, fun _ _ => rfl⟩
theorem leaves_nil (w : World) : Leaves w w.heap.size (.slice none 0 0) 0 w := ⟨.nil, by simp [sb], below_self w⟩
theorem leaves_tight (w : World) (x n : Nat) (h0 : x ≠ 0) (h1 : x < 18446744073709551616) : Leaves w w.heap.size (.slice (some ⟨w.heap.size, 0, none⟩) 1 1) x ((w.alloc (.cells #[.int .u64 (x : Int)] 82 (0, 0))).drewN n) :=
  ⟨.tight (block_new w _) h0 h1, by simp [sb], below_drewN (Below.alloc (below_self w) (Nat.le_refl _) _) n⟩
theorem leaves_roomy (w : World) (x n : Nat) (h0 : x ≠ 0) (h1 : x < 18446744073709551616) : Leaves w w.heap.size (.slice (some ⟨w.heap.size, 0, none⟩) 1 6) x ((w.alloc (six0 x)).drewN n) :=
  ⟨.roomy (block_new w _) h0 h1, by simp [sb], below_drewN (Below.alloc (below_self w) (Nat.le_refl _) _) n⟩

theorem natMul (p sx sy : Value) (x y : Nat) (w : World) (hx : NatAt w sx x) (hy : NatAt w sy y) (h : x * y < 18446744073709551616) :
    Calls Tryz.prog 74 #[.slice none 0 0, p, sx, sy] w fun e w' => ∃ s, e = .returned s ∧ Leaves w w.heap.size s (x * y) w' := by
  have hxl := hx.small
  have hyl := hy.small
  rcases hx.shape with ⟨rfl, rfl⟩ | ⟨bx, cx, rfl, hcx, hx0, _, hxc, _⟩ <;> rcases hy.shape with ⟨rfl, rfl⟩ | ⟨«by», cy, rfl, hcy, hy0, _, hyc, _⟩
  · refine (mul_nil_nil p w).mono ?_
    rintro e w' ⟨rfl, rfl⟩
    exact ⟨_, rfl, leaves_nil w⟩
  · refine (mul_nil_one p _ _ w).mono ?_
    rintro e w' ⟨rfl, rfl⟩
    rw [Nat.zero_mul]
    exact ⟨_, rfl, leaves_nil w⟩
  · refine (mul_one_nil p _ _ w).mono ?_
    rintro e w' ⟨rfl, rfl⟩
    exact ⟨_, rfl, leaves_nil w⟩
  · have h0 : x * y ≠ 0 := Nat.mul_ne_zero hx0 hy0
    refine (mul_one_one p bx cx «by» cy x y w h hxl hyl h0 hcx hcy hxc hyc).mono ?_
    rintro e w' ⟨rfl, n, rfl⟩
    exact ⟨_, rfl, leaves_roomy w _ n h0 h⟩

theorem Leaves.low' {w w' : World} {B B' : Nat} {s : Value} {x : Nat} (h : Leaves w B s x w') (hB : B' ≤ B) : Leaves w B' s x w' :=
  ⟨h.at_, fun b hb => Nat.le_trans hB (h.low b hb), h.below.mono hB⟩
theorem lo64_nat (n : Nat) (h : n < 18446744073709551616) : lo64 (n : Int) = n := by unfold lo64; omega
theorem hi64_nat (n : Nat) (h : n < 18446744073709551616) : hi64 (n : Int) = 0 := by unfold hi64; omega

/-- what a call leaves that may write the blocks S -/
structure Makes (w : World) (S : List Nat) (s : Value) (x : Nat) (w' : World) : Prop where
  at_ : NatAt w' s x
  low : ∀ b ∈ sb s, b ∈ S ∨ w.heap.size ≤ b
  only : Only S w w'
theorem Leaves.makes {w w' : World} {s : Value} {x : Nat} (h : Leaves w w.heap.size s x w') (S : List Nat) : Makes w S s x w' :=
  ⟨h.at_, fun b hb => .inr (h.low b hb), Only.of_below h.below S⟩

/-- add onto the first: no carry -/
theorem natAdd (sx sy : Value) (x y : Nat) (w : World) (hx : NatAt w sx x) (hy : NatAt w sy y) (h : x + y < 18446744073709551616) :
    Calls Tryz.prog 46 #[sx, sx, sy] w fun e w' => ∃ s, e = .returned s ∧ Makes w (sb sx) s (x + y) w' := by
  have hlo : lo64 ((x : Int) + (y : Int)) = ((x + y : Nat) : Int) := lo64_nat (x + y) h
  have hhi : hi64 ((x : Int) + (y : Int)) = 0 := hi64_nat (x + y) h
  cases hx with
  | nil =>
    rcases hy.shape with ⟨rfl, rfl⟩ | ⟨«by», cy, rfl, hcy, hy0, _, hyc, _⟩
    · refine (add_nil w).mono ?_
      rintro e w' ⟨rfl, rfl⟩
      exact ⟨_, rfl, (leaves_nil w).makes _⟩
    · refine (add_second _ _ _ w hcy hyc).mono ?_
      rintro e w' ⟨rfl, rfl⟩
      rw [Nat.zero_add] at h ⊢
      exact ⟨_, rfl, (leaves_tight w _ 0 hy0 h).makes _⟩
  | @tight a x hb h0 h1 =>
    rcases hy.shape with ⟨rfl, rfl⟩ | ⟨«by», cy, rfl, hcy, hy0, _, hyc, _⟩
    · refine (add_self _ _ _ w (by decide) (cell_of hb 0 rfl) (free_of hb 0)).mono ?_
      rintro e w' ⟨rfl, rfl⟩
      exact ⟨_, rfl, .tight (block_setCell hb 0 _) h0 h1, fun b hb => .inl hb, (Only.refl _ w).setCell (.inl (by simp [sb])) _⟩
    · refine (add_new a «by» cy x y w (by omega) (by omega) (by rw [hlo]; simp only [beq_eq_false_iff_ne, ne_eq]; omega) hhi hcy (cell_of hb 0 rfl) hyc).mono ?_
      rintro e w' ⟨rfl, n, rfl⟩
      rw [hlo]
      exact ⟨_, rfl, (leaves_roomy w _ n (by omega) h).makes _⟩
  | @roomy a x c1 c2 c3 c4 c5 hb h0 h1 =>
    rcases hy.shape with ⟨rfl, rfl⟩ | ⟨«by», cy, rfl, hcy, hy0, _, hyc, _⟩
    · refine (add_self _ _ _ w (by decide) (cell_of hb 0 rfl) (free_of hb 0)).mono ?_
      rintro e w' ⟨rfl, rfl⟩
      exact ⟨_, rfl, .roomy (block_setCell hb 0 _) h0 h1, fun b hb => .inl hb, (Only.refl _ w).setCell (.inl (by simp [sb])) _⟩
    · refine (add_in1 a «by» cy x y c1 c2 c3 c4 c5 w (by omega) (by omega) (by rw [hlo]; simp only [beq_eq_false_iff_ne, ne_eq]; omega) hhi hcy hb hyc).mono ?_
      rintro e w' ⟨rfl, ho, hb'⟩
      rw [hlo] at hb'
      exact ⟨_, rfl, .roomy hb' (by omega) h, fun b hb => .inl hb, ho⟩
/-- take nothing away -/
theorem natSub (sx : Value) (x : Nat) (w : World) (hx : NatAt w sx x) (h0 : x ≠ 0) :
    Calls Tryz.prog 48 #[sx, sx, .slice none 0 0] w fun e w' => ∃ s, e = .returned s ∧ Makes w (sb sx) s x w' := by
  cases hx with
  | nil => exact absurd rfl h0
  | @tight a x hb h0 h1 =>
    refine (sub_self _ _ _ w (by decide) (cell_of hb 0 rfl) (free_of hb 0)).mono ?_
    rintro e w' ⟨rfl, rfl⟩
    exact ⟨_, rfl, .tight (block_setCell hb 0 _) h0 h1, fun b hb => .inl hb, (Only.refl _ w).setCell (.inl (by simp [sb])) _⟩
  | @roomy a x c1 c2 c3 c4 c5 hb h0 h1 =>
    refine (sub_self _ _ _ w (by decide) (cell_of hb 0 rfl) (free_of hb 0)).mono ?_
    rintro e w' ⟨rfl, rfl⟩
    exact ⟨_, rfl, .roomy (block_setCell hb 0 _) h0 h1, fun b hb => .inl hb, (Only.refl _ w).setCell (.inl (by simp [sb])) _⟩
theorem natSubN (sx : Value) (x : Nat) (w : World) (hx : NatAt w sx x) (h0 : x ≠ 0) :
    Calls Tryz.prog 48 #[.slice none 0 0, sx, .slice none 0 0] w fun e w' => ∃ s, e = .returned s ∧ Leaves w w.heap.size s x w' := by
  rcases hx.shape with ⟨rfl, rfl⟩ | ⟨«by», cy, rfl, hcy, hy0, _, hyc, _⟩
  · exact absurd rfl h0
  · refine (sub_first _ _ _ w hcy hyc).mono ?_
    rintro e w' ⟨rfl, rfl⟩
    exact ⟨_, rfl, leaves_tight w _ 0 hy0 hx.small⟩
theorem natCmp (sx sy : Value) (x y : Nat) (w : World) (hx : NatAt w sx x) (hy : NatAt w sy y) :
    Calls Tryz.prog 47 #[sx, sy] w fun e w' => e = .returned (.int .i64 (cmpI x y)) ∧ ∃ n, w' = w.drewN n := by
  rcases hx.shape with ⟨rfl, rfl⟩ | ⟨bx, cx, rfl, hcx, hx0, _, hxc, _⟩ <;> rcases hy.shape with ⟨rfl, rfl⟩ | ⟨«by», cy, rfl, hcy, hy0, _, hyc, _⟩
  · refine (cmp_nil w).mono ?_
    rintro e w' ⟨rfl, rfl⟩
    exact ⟨rfl, 0, rfl⟩
  · refine (cmp_less _ _ w).mono ?_
    rintro e w' ⟨rfl, rfl⟩
    have : ((0 : Nat) : Int) < (y : Int) := by omega
    exact ⟨by simp only [cmpI, this, if_true], 0, rfl⟩
  · refine (cmp_more _ _ w).mono ?_
    rintro e w' ⟨rfl, rfl⟩
    have h1 : ¬ (x : Int) < ((0 : Nat) : Int) := by omega
    have h2 : ((0 : Nat) : Int) < (x : Int) := by omega
    exact ⟨by simp only [cmpI, h1, h2, if_true, if_false], 0, rfl⟩
  · exact cmp_one bx «by» cx cy x y w hcx hcy hxc hyc

theorem NatAt.drewN {w : World} {s : Value} {x : Nat} (h : NatAt w s x) (n : Nat) : NatAt (w.drewN n) s x := h.frame h.lt (below_drewN (below_self w) n)
theorem NatAt.drew {w : World} {s : Value} {x : Nat} (h : NatAt w s x) : NatAt w.drew s x := h.drewN 1
theorem NatAt.far {w : World} {s v : Value} {x : Nat} {a : Addr} (h : NatAt w s x) (ha : ∀ b ∈ sb s, b ≠ a.block) : NatAt (w.setCell a v) s x := by
  cases h with
  | nil => exact .nil
  | tight h h0 h1 => exact .tight (block_far h (ha _ (by simp [sb]))) h0 h1
  | roomy h h0 h1 => exact .roomy (block_far h (ha _ (by simp [sb]))) h0 h1
theorem Makes.drawn {w w' : World} {n : Nat} {S : List Nat} {s : Value} {x : Nat} (h : Makes (w.drewN n) S s x w') : Makes w S s x w' :=
  ⟨h.at_, h.low, ⟨h.only.os, h.only.tape, h.only.output, h.only.size, h.only.block⟩⟩
/-- the memory of an Int: its sign and its digits -/
def iob (neg : Bool) (s : Value) : Obj := .cells #[.bool neg, s] 63 (0, 0)
theorem iob_apart {w : World} {p x : Nat} {neg : Bool} {t s : Value} (h : w.heap[p]? = some (iob neg t)) (hs : NatAt w s x) : ∀ b ∈ sb s, b ≠ p := by
  cases hs with
  | nil => intro b hb; simp [sb] at hb
  | tight h' h0 h1 =>
    intro b hb e
    simp [sb] at hb
    subst hb; subst e
    rw [h] at h'
    simp [iob] at h'
  | roomy h' h0 h1 =>
    intro b hb e
    simp [sb] at hb
    subst hb; subst e
    rw [h] at h'
    simp [iob, room] at h'
/-- a natural that is something, at once with the shape of its slice -/
theorem natAdd1 (sx sy : Value) (x y : Nat) (w : World) (hx : NatAt w sx x) (hy : NatAt w sy y) (h : x + y < 18446744073709551616) (h0 : x + y ≠ 0) (n : Nat) :
    Calls Tryz.prog 46 #[sx, sx, sy] (w.drewN n) fun e w' => ∃ b c, e = .returned (.slice (some ⟨b, 0, none⟩) 1 c) ∧ Makes w (sb sx) (.slice (some ⟨b, 0, none⟩) 1 c) (x + y) w' := by
  refine (natAdd sx sy x y (w.drewN n) (hx.drewN n) (hy.drewN n) h).mono ?_
  rintro e w' ⟨s, rfl, L⟩
  rcases L.at_.shape with ⟨rfl, h1⟩ | ⟨b, c, rfl, _, h0, _⟩
  · exact absurd h1 h0
  · exact ⟨b, c, rfl, L.drawn⟩
theorem natAdd0 (w : World) (n : Nat) :
    Calls Tryz.prog 46 #[.slice none 0 0, .slice none 0 0, .slice none 0 0] (w.drewN n) fun e w' => e = .returned (.slice none 0 0) ∧ w' = w.drewN n := by
  refine (add_nil (w.drewN n)).mono ?_
  rintro e w' ⟨rfl, rfl⟩
  exact ⟨rfl, rfl⟩
theorem natSub1 (sx : Value) (x : Nat) (w : World) (hx : NatAt w sx x) (h0 : x ≠ 0) (n : Nat) :
    Calls Tryz.prog 48 #[sx, sx, .slice none 0 0] (w.drewN n) fun e w' => ∃ b c, e = .returned (.slice (some ⟨b, 0, none⟩) 1 c) ∧ Makes w (sb sx) (.slice (some ⟨b, 0, none⟩) 1 c) x w' := by
  refine (natSub sx x (w.drewN n) (hx.drewN n) h0).mono ?_
  rintro e w' ⟨s, rfl, L⟩
  rcases L.at_.shape with ⟨rfl, h1⟩ | ⟨b, c, rfl, _, h0, _⟩
  · exact absurd h1 h0
  · exact ⟨b, c, rfl, L.drawn⟩
theorem natSubN1 (sx : Value) (x : Nat) (w : World) (hx : NatAt w sx x) (h0 : x ≠ 0) (n : Nat) :
    Calls Tryz.prog 48 #[.slice none 0 0, sx, .slice none 0 0] (w.drewN n) fun e w' => ∃ b c, e = .returned (.slice (some ⟨b, 0, none⟩) 1 c) ∧ Makes w [] (.slice (some ⟨b, 0, none⟩) 1 c) x w' := by
  refine (natSubN sx x (w.drewN n) (hx.drewN n) h0).mono ?_
  rintro e w' ⟨s, rfl, L⟩
  rcases L.at_.shape with ⟨rfl, h1⟩ | ⟨b, c, rfl, _, h0, _⟩
  · exact absurd h1 h0
  · exact ⟨b, c, rfl, (L.makes []).drawn⟩
end Go.Proofs.YtpamkblhdgjlcaaGreatDoor
