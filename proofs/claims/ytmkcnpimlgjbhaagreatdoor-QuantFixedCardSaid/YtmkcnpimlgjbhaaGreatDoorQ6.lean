/- Walk of the quantiser's nearest at the one sum of two words that the law of layer 25 makes. -/
import Derived.Test.YtmkcnpimlgjbhaaGreatDoorProg
import Derived.Test.YtmkcnpimlgjbhaaGreatDoorBase
import Derived.Test.YtmkcnpimlgjbhaaGreatDoorMem
import Derived.Test.YtmkcnpimlgjbhaaGreatDoorInt1
import Derived.Test.YtmkcnpimlgjbhaaGreatDoorInt3
import Derived.Test.YtmkcnpimlgjbhaaGreatDoorInt5
import Derived.Test.YtmkcnpimlgjbhaaGreatDoorInt6
import Derived.Test.YtmkcnpimlgjbhaaGreatDoorInt8
import Derived.Test.YtmkcnpimlgjbhaaGreatDoorIntV
import Derived.Test.YtmkcnpimlgjbhaaGreatDoorDiv
import Derived.Test.YtmkcnpimlgjbhaaGreatDoorQ2
import Derived.WalkKit
import Derived.WalkSpells
import Derived.WalkLawsBesides
import Derived.Handy
import Derived.Deep.QuietTactic
import Derived.BigQuiet
set_option linter.unusedSimpArgs false
set_option linter.unusedVariables false
namespace Go.Proofs.YtmkcnpimlgjbhaaGreatDoor
open Go.RowKit

set_option maxRecDepth 8000 in
set_option maxHeartbeats 4000000 in
theorem nearest_big (pn a k : Nat) (c2 c3 c4 c5 : Value) (w : World) (hp : w.heap[pn]? = some (iob false (.slice (some ⟨a, 0, none⟩) 2 6))) (ha : w.heap[a]? = some (room 4611686014132420608 (.int .u64 1) c2 c3 c4 c5)) (hk : k = 1 ∨ k = 31) (hu : 2 ^ k = 2147483648) :
    Calls Tryz.prog 26 #[.pointer (some ⟨pn, 0, none⟩), .int .i64 k] w fun e w' =>
      ∃ p, e = .returned (.pointer (some ⟨p, 0, none⟩)) ∧ IntV w' w.heap.size p 10737418238 ∧ Only [] w w' := by
  have hpn := lt_of_block hp
  have hc : IntKind.u64.wrap (k : Int) = k := by rcases hk with rfl | rfl <;> decide +kernel
  go_enter Tryz.func26, Tryz.ntmps26
  go_wp2_with fail
  refine (newIntOne _).mono ?_
  rintro e w1 ⟨p1, s1, rfl, V1, O1⟩
  go_wp2_with fail
  have hz1 : w1.heap[w.heap.size]? = some (iob false (.slice none 0 0)) := O1.at (block_new w _) (by simp)
  have hp1 : w.heap.size ≠ p1 := by have := V1.low; simp at this; omega
  have L1 : Only [] w w1 := ((Only.refl [] w).alloc _).trans O1
  refine (ilsh_new w.heap.size p1 k s1 w1 hz1 V1.cell V1.nat hp1 hk).mono ?_
  rintro e w2 ⟨rfl, su, hu2, U⟩
  rw [hu] at U
  obtain ⟨«by», cy, rfl⟩ : ∃ b c, su = .slice (some ⟨b, 0, none⟩) 1 c := by
    rcases U.at_.shape with ⟨_, h⟩ | ⟨b, c, h, _⟩
    · exact absurd h (by decide)
    · exact ⟨b, c, h⟩
  have L2 : Only [] w w2 := L1.then U.only (by simp)
  have hlt2 := lt_of_block hu2
  go_wp2_with fail
  have L3 : Only [] w ((w2.alloc (iob false (.slice none 0 0))).alloc (iob false (.slice none 0 0))) := (L2.alloc _).alloc _
  have hr3 : ((w2.alloc (iob false (.slice none 0 0))).alloc (iob false (.slice none 0 0))).heap[w2.heap.size + 1]? = some (iob false (.slice none 0 0)) := by
    simpa using block_new (w2.alloc (iob false (.slice none 0 0))) (iob false (.slice none 0 0))
  have B3 : Below w2.heap.size w2 ((w2.alloc (iob false (.slice none 0 0))).alloc (iob false (.slice none 0 0))) := ((below_self w2).alloc (Nat.le_refl _) _).alloc (Nat.le_of_lt (lt_of_block (block_new w2 _))) _
  have ha3 := L3.at ha (by simp)
  obtain ⟨hcy, hyc⟩ : 1 ≤ cy ∧ ((w2.alloc (iob false (.slice none 0 0))).alloc (iob false (.slice none 0 0))).cell? ⟨«by», 0, none⟩ = some (.int .u64 ((2147483648 : Nat) : Int)) := by
    rcases (U.at_.frame U.at_.lt B3).shape with ⟨h', _⟩ | ⟨b', c', h', h2, _, _, h3, _⟩
    · cases h'
    · cases h'; exact ⟨h2, h3⟩
  refine (idivmodG w2.heap.size pn w.heap.size (w2.heap.size + 1) _ _ _ _ 10737418238 0 _ (block_alloc (block_new w2 _)) (L3.at hp (by simp)) (block_alloc (block_alloc hu2)) hr3 (by omega) (by have := L2.size; omega) (by have := L2.size; omega) (by omega) (by omega) (fun n => (div_big a 6 «by» cy (((w2.alloc (iob false (.slice none 0 0))).alloc (iob false (.slice none 0 0))).drewN n) (by decide) hcy (cell_of ha3 0 rfl) (cell_of ha3 1 rfl) hyc).mono ?_)).mono ?_
  · rintro e w' ⟨rfl, rfl⟩
    exact ⟨_, _, _, _, _, _, rfl, ((leaves_roomy (((w2.alloc (iob false (.slice none 0 0))).alloc (iob false (.slice none 0 0))).drewN n) 10737418238 0 (by decide) (by decide)).makes []).drawn, ⟨.nil, by simp [sb], ((Only.refl [] _).drewN n).alloc _⟩, by simp [sb]⟩
  rintro e w4 ⟨rfl, sq, sr, hq4, hr4, Q, R, hap⟩
  have B4 : Below w2.heap.size w2 w4 := B3.trans (Q.only.toBelow (by simp) (by simp; omega))
  have L4 : Only [] w w4 := L3.then Q.only (by have := L2.size; simp; omega)
  go_wp2_with fail
  refine (ilsh_self (w2.heap.size + 1) sr 0 w4 hr4 R.at_ (by omega)).mono ?_
  rintro e w5 ⟨rfl, sv, hv5, V⟩
  have hsr : ∀ t ∈ (w2.heap.size + 1) :: sb sr, w2.heap.size ≤ t := by
    intro t ht
    rcases List.mem_cons.1 ht with rfl | ht
    · omega
    · rcases R.low t ht with h | h
      · simp at h; omega
      · simp at h; omega
  have B5 : Below w2.heap.size w2 w5 := B4.trans (V.only.toBelow hsr B4.size)
  have L5 : Only [] w w5 := L4.then V.only (fun t ht => .inr (by have := hsr t ht; have := L2.size; omega))
  go_wp2_with fail
  refine (icmp_same (w2.heap.size + 1) w.heap.size false sv _ (2 * 0) 2147483648 w5 hv5 ((B5.block _ hlt2).trans hu2) V.at_ (U.at_.frame U.at_.lt B5) (by omega)).mono ?_
  rintro e w6 ⟨rfl, n6, rfl⟩
  have e1 : (if false then cmpI ((2147483648 : Nat) : Int) ((2 * 0 : Nat) : Int) else cmpI ((2 * 0 : Nat) : Int) ((2147483648 : Nat) : Int)) = -1 := by
    rfl
  rw [e1]
  go_wp2_with fail
  go_ret
  have hpr : w2.heap.size ∉ (w2.heap.size + 1) :: sb sr := by
    simp only [List.mem_cons, not_or]
    exact ⟨by omega, fun hm => iob_apart hq4 R.at_ _ hm rfl⟩
  have hqs : ∀ b ∈ sb sq, b ∉ (w2.heap.size + 1) :: sb sr := by
    intro b hb hm
    rcases List.mem_cons.1 hm with h | h
    · exact iob_apart hr4 Q.at_ b hb h
    · exact hap b hb h
  have V4 : IntVal w4 w.heap.size w2.heap.size false 10737418238 sq := ⟨hq4, Q.at_, L2.size, fun b hb => by
    rcases Q.low b hb with h | h
    · have := L2.size; simp at h; omega
    · have := L2.size; simp at h; omega, fun h0 => rfl⟩
  exact ⟨_, rfl, ⟨sq, (V4.only V.only hpr hqs).drewN n6⟩, L5.drewN n6⟩
end Go.Proofs.YtmkcnpimlgjbhaaGreatDoor
