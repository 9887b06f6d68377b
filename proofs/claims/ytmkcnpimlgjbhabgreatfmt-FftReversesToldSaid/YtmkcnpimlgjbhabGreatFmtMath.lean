/- Plain laws for FftReverses: the bits of a number the other way round, by the masks of math/bits and by the document's loop. No program in sight. -/
import Derived.WalkKit
namespace Go.Proofs.YtmkcnpimlgjbhabGreatFmt
open Go.RowKit

def rb1 (x : Int) : Int := bits BinOp.or IntKind.u64 (bits BinOp.and IntKind.u64 (x / 256) 71777214294589695) (IntKind.u64.wrap (bits BinOp.and IntKind.u64 x 71777214294589695 * 256))
def rb2 (x : Int) : Int := bits BinOp.or IntKind.u64 (bits BinOp.and IntKind.u64 (x / 65536) 281470681808895) (IntKind.u64.wrap (bits BinOp.and IntKind.u64 x 281470681808895 * 65536))
def rb3 (x : Int) : Int := bits BinOp.or IntKind.u64 (x / 4294967296) (IntKind.u64.wrap (x * 4294967296))
def rv1 (x : Int) : Int := bits BinOp.or IntKind.u64 (bits BinOp.and IntKind.u64 (x / 2) 6148914691236517205) (IntKind.u64.wrap (bits BinOp.and IntKind.u64 x 6148914691236517205 * 2))
def rv2 (x : Int) : Int := bits BinOp.or IntKind.u64 (bits BinOp.and IntKind.u64 (x / 4) 3689348814741910323) (IntKind.u64.wrap (bits BinOp.and IntKind.u64 x 3689348814741910323 * 4))
def rv3 (x : Int) : Int := bits BinOp.or IntKind.u64 (bits BinOp.and IntKind.u64 (x / 16) 1085102592571150095) (IntKind.u64.wrap (bits BinOp.and IntKind.u64 x 1085102592571150095 * 16))
def rev64 (x : Int) : Int := rb3 (rb2 (rb1 (rv3 (rv2 (rv1 x)))))

/-- the document's way, after i rounds from j: what is made, what is left -/
def docTo (j : Int) : Nat → Int × Int
  | 0 => (0, j)
  | i + 1 => (2 * (docTo j i).1 + (docTo j i).2 % 2, (docTo j i).2 / 2)
/-- k bits the other way round, by the program's way -/
def revs (k : Nat) (j : Int) : Int := rev64 j / 2 / 2 ^ (63 - k)
def allOk (k : Nat) : Bool := (List.range (2 ^ k)).all fun j => decide (revs k (j : Nat) = (docTo (j : Nat) k).1 ∧ 0 ≤ revs k (j : Nat) ∧ revs k (j : Nat) < 2 ^ k ∧ revs k (revs k (j : Nat)) = (j : Nat) ∧ 0 ≤ rev64 (j : Nat) ∧ rev64 (j : Nat) < 18446744073709551616)
theorem all9 : (List.range 10).all allOk = true := by decide +kernel
theorem all10 : allOk 10 = true := by decide +kernel
theorem all11 : allOk 11 = true := by decide +kernel
theorem all12 : allOk 12 = true := by decide +kernel
theorem allk (k : Nat) (h : k ≤ 12) : allOk k = true := by
  by_cases h9 : k < 10
  · exact List.all_eq_true.1 all9 k (List.mem_range.2 h9)
  · obtain rfl | rfl | rfl : k = 10 ∨ k = 11 ∨ k = 12 := by omega
    · exact all10
    · exact all11
    · exact all12
theorem rev_of (k j : Nat) (h : k ≤ 12) (hj : j < 2 ^ k) : revs k (j : Nat) = (docTo (j : Nat) k).1 ∧ 0 ≤ revs k (j : Nat) ∧ revs k (j : Nat) < 2 ^ k ∧ revs k (revs k (j : Nat)) = (j : Nat) ∧ 0 ≤ rev64 (j : Nat) ∧ rev64 (j : Nat) < 18446744073709551616 :=
  of_decide_eq_true (List.all_eq_true.1 (allk k h) j (List.mem_range.2 hj))
theorem docTo_pos (j : Int) (h : 0 ≤ j) (i : Nat) : 0 ≤ (docTo j i).1 ∧ 0 ≤ (docTo j i).2 ∧ (docTo j i).2 ≤ j := by
  induction i with
  | zero => simp [docTo]; omega
  | succ i ih => simp only [docTo]; omega
theorem docTo_lt (j : Int) (h : 0 ≤ j) (i : Nat) : (docTo j i).1 < 2 ^ i := by
  induction i with
  | zero => simp [docTo]
  | succ i ih => have := docTo_pos j h i; simp only [docTo, Int.pow_succ]; omega
end Go.Proofs.YtmkcnpimlgjbhabGreatFmt
