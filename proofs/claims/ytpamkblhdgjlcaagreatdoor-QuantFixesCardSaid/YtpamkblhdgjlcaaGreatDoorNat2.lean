/- Walks of math/big's naturals at the few lengths that layer 25 needs: make, norm, set, add, mul, lsh. -/
import Derived.Test.YtpamkblhdgjlcaaGreatDoorProg
import Derived.Test.YtpamkblhdgjlcaaGreatDoorBase
import Derived.Test.YtpamkblhdgjlcaaGreatDoorNat1
import Derived.Test.YtpamkblhdgjlcaaGreatDoorShelf
import Derived.WalkKit
import Derived.WalkSpells
import Derived.WalkLawsBesides
import Derived.Handy
import Derived.Deep.QuietTactic
import Derived.BigQuiet
import Derived.Laws.IdiomCopy
namespace Go.Proofs.YtpamkblhdgjlcaaGreatDoor
open Go.RowKit Go.Shelf

def M64 : Int := 18446744073709551616
theorem lo64_small (x : Int) (h : 0 ≤ x) (h' : x < M64) : lo64 x = x := by unfold lo64 M64 at *; omega
theorem hi64_small (x : Int) (h : 0 ≤ x) (h' : x < M64) : hi64 x = 0 := by unfold hi64 M64 at *; omega

/-! make -/
set_option maxHeartbeats 400000 in
theorem make_fit (a : Addr) (l c n : Nat) (w : World) (h : n ≤ c) :
    Calls Tryz.prog 65 #[.slice (some a) l c, .int .i64 n] w fun e w' => e = .returned (.slice (some a) n c) ∧ w = w' := by
  go_enter Tryz.func65, Tryz.ntmps65
  go_wp2_with fail
  go_ret
  exact ⟨rfl, rfl⟩
set_option maxHeartbeats 400000 in
theorem make_one (w : World) :
    Calls Tryz.prog 65 #[.slice none 0 0, .int .i64 1] w fun e w' => e = .returned (.slice (some ⟨w.heap.size, 0, none⟩) 1 1) ∧ w' = w.alloc (.cells #[.int .u64 0] 82 (0, 0)) := by
  have hmk : ∀ w, (Instr.makeSlice 61 (.int .i64 1) (.int .i64 1)).run Tryz.prog w = .ok (.slice (some ⟨w.heap.size, 0, none⟩) 1 1) (w.alloc (.cells #[.int .u64 0] 82 (0, 0))) := fun _ => by kernel_rfl
  go_enter Tryz.func65, Tryz.ntmps65
  go_wp2_with fail
  go_ret
  exact ⟨rfl, rfl⟩
def six : Array Value := #[.int .u64 0, .int .u64 0, .int .u64 0, .int .u64 0, .int .u64 0, .int .u64 0]
set_option maxHeartbeats 400000 in
theorem make_nil2 (w : World) :
    Calls Tryz.prog 65 #[.slice none 0 0, .int .i64 2] w fun e w' => e = .returned (.slice (some ⟨w.heap.size, 0, none⟩) 2 6) ∧ w' = w.alloc (.cells #[.int .u64 0, .int .u64 0, .int .u64 0, .int .u64 0, .int .u64 0, .int .u64 0] 82 (0, 0)) := by
  have hmk : ∀ w, (Instr.makeSlice 61 (.int .i64 2) (.int .i64 6)).run Tryz.prog w = .ok (.slice (some ⟨w.heap.size, 0, none⟩) 2 6) (w.alloc (.cells #[.int .u64 0, .int .u64 0, .int .u64 0, .int .u64 0, .int .u64 0, .int .u64 0] 82 (0, 0))) := fun _ => by kernel_rfl
  go_enter Tryz.func65, Tryz.ntmps65
  go_wp2_with fail
  go_ret
  exact ⟨rfl, rfl⟩
set_option maxHeartbeats 400000 in
theorem make_one2 (a : Addr) (l : Nat) (w : World) :
    Calls Tryz.prog 65 #[.slice (some a) l 1, .int .i64 2] w fun e w' => e = .returned (.slice (some ⟨w.heap.size, 0, none⟩) 2 6) ∧ w' = w.alloc (.cells #[.int .u64 0, .int .u64 0, .int .u64 0, .int .u64 0, .int .u64 0, .int .u64 0] 82 (0, 0)) := by
  have hmk : ∀ w, (Instr.makeSlice 61 (.int .i64 2) (.int .i64 6)).run Tryz.prog w = .ok (.slice (some ⟨w.heap.size, 0, none⟩) 2 6) (w.alloc (.cells #[.int .u64 0, .int .u64 0, .int .u64 0, .int .u64 0, .int .u64 0, .int .u64 0] 82 (0, 0))) := fun _ => by kernel_rfl
  go_enter Tryz.func65, Tryz.ntmps65
  go_wp2_with fail
  go_ret
  exact ⟨rfl, rfl⟩

/-! norm -/
set_option maxHeartbeats 400000 in
theorem norm1 (b c : Nat) (x : Int) (w : World) (hc : 1 ≤ c) (hx : (x == 0) = false) (h0 : w.cell? ⟨b, 0, none⟩ = some (.int .u64 x)) :
    Calls Tryz.prog 68 #[.slice (some ⟨b, 0, none⟩) 1 c] w fun e w' => e = .returned (.slice (some ⟨b, 0, none⟩) 1 c) ∧ w = w' := by
  go_enter Tryz.func68, Tryz.ntmps68
  go_wp2_with fail
  refine wp_loop_rounds 2 ?_
  rw [rounds_succ]
  go_wp2_with fail
  go_ret
  exact ⟨rfl, rfl⟩
set_option maxHeartbeats 400000 in
theorem norm2_1 (b c : Nat) (x : Int) (w : World) (hc : 2 ≤ c) (hx : (x == 0) = false) (h0 : w.cell? ⟨b, 0, none⟩ = some (.int .u64 x)) (h1 : w.cell? ⟨b, 1, none⟩ = some (.int .u64 0)) :
    Calls Tryz.prog 68 #[.slice (some ⟨b, 0, none⟩) 2 c] w fun e w' => e = .returned (.slice (some ⟨b, 0, none⟩) 1 c) ∧ w = w' := by
  have hc1 : 1 ≤ c := by omega
  go_enter Tryz.func68, Tryz.ntmps68
  go_wp2_with fail
  refine wp_loop_rounds 3 ?_
  repeat any_goals (rw [rounds_succ]; go_wp2_with fail)
  go_ret
  exact ⟨rfl, rfl⟩
set_option maxHeartbeats 400000 in
theorem norm2_2 (b c : Nat) (y : Int) (w : World) (hc : 2 ≤ c) (hy : (y == 0) = false) (h1 : w.cell? ⟨b, 1, none⟩ = some (.int .u64 y)) :
    Calls Tryz.prog 68 #[.slice (some ⟨b, 0, none⟩) 2 c] w fun e w' => e = .returned (.slice (some ⟨b, 0, none⟩) 2 c) ∧ w = w' := by
  go_enter Tryz.func68, Tryz.ntmps68
  go_wp2_with fail
  refine wp_loop_rounds 3 ?_
  repeat any_goals (rw [rounds_succ]; go_wp2_with fail)
  go_ret
  exact ⟨rfl, rfl⟩

/-! set -/
theorem copy1 (d s cd cs : Nat) (v : Value) (w : World) (hv : v.oneCell' = true) (hs : w.cell? ⟨s, 0, none⟩ = some v) (hd : (w.cell? ⟨d, 0, none⟩).isSome = true) (hf : w.frozen? ⟨d, 0, none⟩ = false) :
    (Builtin.copy_ #[61, 61] 3 #[.slice (some ⟨d, 0, none⟩) 1 cd, .slice (some ⟨s, 0, none⟩) 1 cs]).run Tryz.prog w = .ok (.int .i64 1) (w.setCell ⟨d, 0, none⟩ v) := by
  have h := run_copy_cells (P := Tryz.prog) w 61 61 3 82 d 0 1 cd ⟨s, 0, none⟩ 1 cs [v] Tryz.underlying61 (by kernel_rfl) rfl
    (fun j u hj => by
      rcases j with _ | j
      · simp at hj; subst hj; simpa [Addr.add] using hs
      · simp at hj)
    (fun j hj => by
      obtain rfl : j = 0 := (by simpa using hj)
      simpa using hd)
    (fun j hj => by
      obtain rfl : j = 0 := (by simpa using hj)
      simpa using hf)
    (fun u hu => by simp at hu; subst hu; exact hv)
  rw [h]; rfl
set_option maxHeartbeats 400000 in
/-- into no room at all: a new block of one word -/
theorem set_new (s cs : Nat) (x : Int) (w : World) (hx : w.cell? ⟨s, 0, none⟩ = some (.int .u64 x)) :
    Calls Tryz.prog 64 #[.slice none 0 0, .slice (some ⟨s, 0, none⟩) 1 cs] w fun e w' => e = .returned (.slice (some ⟨w.heap.size, 0, none⟩) 1 1) ∧ w' = w.alloc (.cells #[.int .u64 x] 82 (0, 0)) := by
  have hlt := World.block_lt_of_cell? w _ hx
  have hcp := copy1 w.heap.size s 1 cs (.int .u64 x) (w.alloc (.cells #[.int .u64 0] 82 (0, 0))) rfl (by simp only [go_sem, hlt, hx]) (by simp [go_sem]) (by simp [go_sem])
  go_enter Tryz.func64, Tryz.ntmps64
  go_wp2_with (go_at_call 65; refine (make_one _).mono ?_; rintro e w' ⟨rfl, rfl⟩)
  go_ret
  exact ⟨rfl, rfl⟩
set_option maxHeartbeats 400000 in
/-- onto itself -/
theorem set_self (s c : Nat) (x : Int) (w : World) (h1 : 1 ≤ c) (hx : w.cell? ⟨s, 0, none⟩ = some (.int .u64 x)) (hf : w.frozen? ⟨s, 0, none⟩ = false) :
    Calls Tryz.prog 64 #[.slice (some ⟨s, 0, none⟩) 1 c, .slice (some ⟨s, 0, none⟩) 1 c] w fun e w' => e = .returned (.slice (some ⟨s, 0, none⟩) 1 c) ∧ w' = w.setCell ⟨s, 0, none⟩ (.int .u64 x) := by
  have hcp := copy1 s s c c (.int .u64 x) w rfl hx (by simp [hx]) hf
  have hm := fun w => make_fit ⟨s, 0, none⟩ 1 c 1 w h1
  have HM := Lib.hid hm
  clear hm
  go_enter Tryz.func64, Tryz.ntmps64
  go_wp2_with (go_at_call 65; refine (HM.out _).mono ?_; rintro e w' ⟨rfl, rfl⟩)
  go_ret
  exact ⟨rfl, rfl⟩
end Go.Proofs.YtpamkblhdgjlcaaGreatDoor
