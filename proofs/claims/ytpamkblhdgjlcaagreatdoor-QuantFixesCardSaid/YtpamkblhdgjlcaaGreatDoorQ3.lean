/- Walk of the quantiser's nearest, where the rest is below a half. -/
import Derived.Test.YtpamkblhdgjlcaaGreatDoorProg
import Derived.Test.YtpamkblhdgjlcaaGreatDoorBase
import Derived.Test.YtpamkblhdgjlcaaGreatDoorMem
import Derived.Test.YtpamkblhdgjlcaaGreatDoorInt1
import Derived.Test.YtpamkblhdgjlcaaGreatDoorInt3
import Derived.Test.YtpamkblhdgjlcaaGreatDoorInt5
import Derived.Test.YtpamkblhdgjlcaaGreatDoorInt6
import Derived.Test.YtpamkblhdgjlcaaGreatDoorQ2
import Derived.WalkKit
import Derived.WalkSpells
import Derived.WalkLawsBesides
import Derived.Handy
import Derived.Deep.QuietTactic
import Derived.BigQuiet
set_option linter.unusedSimpArgs false
set_option linter.unusedVariables false
namespace Go.Proofs.YtpamkblhdgjlcaaGreatDoor
open Go.RowKit

set_option maxRecDepth 8000 in
set_option maxHeartbeats 4000000 in
theorem nearest_low (pn B x u k : Nat) (neg : Bool) (s : Value) (w : World) (hn : IntVal w B pn neg x s) (hk : k = 1 ∨ k = 31) (hu : 2 ^ k = u) (h1 : 1 < u) (hq : x = 0 ∨ x / u ≠ 0) (hs : (neg && decide (x % u ≠ 0)) = false) (hl : 2 * (x % u) < u) (hul : u < 18446744073709551616) :
    Calls Tryz.prog 30 #[.pointer (some ⟨pn, 0, none⟩), .int .i64 k] w fun e w' =>
      ∃ p s', e = .returned (.pointer (some ⟨p, 0, none⟩)) ∧ IntVal w' w.heap.size p (neg && decide (x / u ≠ 0)) (x / u) s' ∧ Only [] w w' := by
  have hpn := hn.size
  have hc : IntKind.u64.wrap (k : Int) = k := by rcases hk with rfl | rfl <;> decide +kernel
  go_enter Tryz.func30, Tryz.ntmps30
  go_wp2_with fail
  refine (newIntOne _).mono ?_
  rintro e w1 ⟨p1, s1, rfl, V1, O1⟩
  go_wp2_with fail
  have hz1 : w1.heap[w.heap.size]? = some (iob false (.slice none 0 0)) := O1.at (block_new w _) (by simp)
  have hp1 : w.heap.size ≠ p1 := by have := V1.low; simp at this; omega
  have L1 : Only [] w w1 := ((Only.refl [] w).alloc _).trans O1
  refine (ilsh_new w.heap.size p1 k s1 w1 hz1 V1.cell V1.nat hp1 hk).mono ?_
  rintro e w2 ⟨rfl, su, hu2, U⟩
  rw [hu] at U
  have L2 : Only [] w w2 := L1.then U.only (by simp)
  have hlt2 := lt_of_block hu2
  go_wp2_with fail
  have L3 : Only [] w ((w2.alloc (iob false (.slice none 0 0))).alloc (iob false (.slice none 0 0))) := (L2.alloc _).alloc _
  have hr3 : ((w2.alloc (iob false (.slice none 0 0))).alloc (iob false (.slice none 0 0))).heap[w2.heap.size + 1]? = some (iob false (.slice none 0 0)) := by
    simpa using block_new (w2.alloc (iob false (.slice none 0 0))) (iob false (.slice none 0 0))
  have B3 : Below w2.heap.size w2 ((w2.alloc (iob false (.slice none 0 0))).alloc (iob false (.slice none 0 0))) := ((below_self w2).alloc (Nat.le_refl _) _).alloc (Nat.le_of_lt (lt_of_block (block_new w2 _))) _
  refine (idivmod w2.heap.size pn w.heap.size (w2.heap.size + 1) neg s su x u _ (block_alloc (block_new w2 _)) (hn.fresh L3).cell (block_alloc (block_alloc hu2)) hr3 (by omega) (by have := L2.size; omega) (by have := L2.size; omega) (by omega) (by omega) (hn.fresh L3).nat (U.at_.frame U.at_.lt B3) h1 hq hs).mono ?_
  rintro e w4 ⟨rfl, sq, sr, hq4, hr4, Q, R, hap⟩
  have B4 : Below w2.heap.size w2 w4 := B3.trans (Q.only.toBelow (by simp) (by simp; omega))
  have L4 : Only [] w w4 := L3.then Q.only (by have := L2.size; simp; omega)
  go_wp2_with fail
  refine (ilsh_self (w2.heap.size + 1) sr (x % u) w4 hr4 R.at_ (by omega)).mono ?_
  rintro e w5 ⟨rfl, sv, hv5, V⟩
  have hsr : ∀ t ∈ (w2.heap.size + 1) :: sb sr, w2.heap.size ≤ t := by
    intro t ht
    rcases List.mem_cons.1 ht with rfl | ht
    · omega
    · rcases R.low t ht with h | h
      · simp at h; omega
      · simp at h; omega
  have B5 : Below w2.heap.size w2 w5 := B4.trans (V.only.toBelow hsr B4.size)
  have L5 : Only [] w w5 := L4.then V.only (fun t ht => .inr (by have := hsr t ht; have := L2.size; omega))
  go_wp2_with fail
  refine (icmp_same (w2.heap.size + 1) w.heap.size false sv su (2 * (x % u)) u w5 hv5 ((B5.block _ hlt2).trans hu2) V.at_ (U.at_.frame U.at_.lt B5) (by omega)).mono ?_
  rintro e w6 ⟨rfl, n6, rfl⟩
  have e1 : (if false then cmpI (u : Int) ((2 * (x % u) : Nat) : Int) else cmpI ((2 * (x % u) : Nat) : Int) (u : Int)) = -1 := by
    have : ((2 * (x % u) : Nat) : Int) < (u : Int) := by omega
    simp only [cmpI, this, if_true]; rfl
  rw [e1]
  go_wp2_with fail
  go_ret
  have hpr : w2.heap.size ∉ (w2.heap.size + 1) :: sb sr := by
    simp only [List.mem_cons, not_or]
    exact ⟨by omega, fun hm => iob_apart hq4 R.at_ _ hm rfl⟩
  have hqs : ∀ b ∈ sb sq, b ∉ (w2.heap.size + 1) :: sb sr := by
    intro b hb hm
    rcases List.mem_cons.1 hm with h | h
    · exact iob_apart hr4 Q.at_ b hb h
    · exact hap b hb h
  have V4 : IntVal w4 w.heap.size w2.heap.size (neg && decide (x / u ≠ 0)) (x / u) sq := ⟨hq4, Q.at_, L2.size, fun b hb => by
    rcases Q.low b hb with h | h
    · have := L2.size; simp at h; omega
    · have := L2.size; simp at h; omega, fun h0 => by simp [h0]⟩
  exact ⟨_, sq, rfl, (V4.only V.only hpr hqs).drewN n6, L5.drewN n6⟩
set_option maxRecDepth 8000 in
set_option maxHeartbeats 4000000 in
theorem nearest_tie (pn B x u k : Nat) (neg : Bool) (s : Value) (w : World) (hn : IntVal w B pn neg x s) (hk : k = 1 ∨ k = 31) (hu : 2 ^ k = u) (h1 : 1 < u) (hq : x = 0 ∨ x / u ≠ 0) (hneg : neg = false) (hl : 2 * (x % u) = u) (hodd : bits .and .u64 ((x / u : Nat) : Int) 1 = 1) (hq0 : x / u ≠ 0) (hql : x / u + 1 < 18446744073709551616) (hul : u < 18446744073709551616) :
    Calls Tryz.prog 30 #[.pointer (some ⟨pn, 0, none⟩), .int .i64 k] w fun e w' =>
      ∃ p s', e = .returned (.pointer (some ⟨p, 0, none⟩)) ∧ IntVal w' w.heap.size p false (x / u + 1) s' ∧ Only [] w w' := by
  have hpn := hn.size
  have hs : (neg && decide (x % u ≠ 0)) = false := by rw [hneg]; rfl
  have hc : IntKind.u64.wrap (k : Int) = k := by rcases hk with rfl | rfl <;> decide +kernel
  go_enter Tryz.func30, Tryz.ntmps30
  go_wp2_with fail
  refine (newIntOne _).mono ?_
  rintro e w1 ⟨p1, s1, rfl, V1, O1⟩
  go_wp2_with fail
  have hz1 : w1.heap[w.heap.size]? = some (iob false (.slice none 0 0)) := O1.at (block_new w _) (by simp)
  have hp1 : w.heap.size ≠ p1 := by have := V1.low; simp at this; omega
  have L1 : Only [] w w1 := ((Only.refl [] w).alloc _).trans O1
  refine (ilsh_new w.heap.size p1 k s1 w1 hz1 V1.cell V1.nat hp1 hk).mono ?_
  rintro e w2 ⟨rfl, su, hu2, U⟩
  rw [hu] at U
  have L2 : Only [] w w2 := L1.then U.only (by simp)
  have hlt2 := lt_of_block hu2
  go_wp2_with fail
  have L3 : Only [] w ((w2.alloc (iob false (.slice none 0 0))).alloc (iob false (.slice none 0 0))) := (L2.alloc _).alloc _
  have hr3 : ((w2.alloc (iob false (.slice none 0 0))).alloc (iob false (.slice none 0 0))).heap[w2.heap.size + 1]? = some (iob false (.slice none 0 0)) := by
    simpa using block_new (w2.alloc (iob false (.slice none 0 0))) (iob false (.slice none 0 0))
  have B3 : Below w2.heap.size w2 ((w2.alloc (iob false (.slice none 0 0))).alloc (iob false (.slice none 0 0))) := ((below_self w2).alloc (Nat.le_refl _) _).alloc (Nat.le_of_lt (lt_of_block (block_new w2 _))) _
  refine (idivmod w2.heap.size pn w.heap.size (w2.heap.size + 1) neg s su x u _ (block_alloc (block_new w2 _)) (hn.fresh L3).cell (block_alloc (block_alloc hu2)) hr3 (by omega) (by have := L2.size; omega) (by have := L2.size; omega) (by omega) (by omega) (hn.fresh L3).nat (U.at_.frame U.at_.lt B3) h1 hq hs).mono ?_
  rintro e w4 ⟨rfl, sq, sr, hq4, hr4, Q, R, hap⟩
  have B4 : Below w2.heap.size w2 w4 := B3.trans (Q.only.toBelow (by simp) (by simp; omega))
  have L4 : Only [] w w4 := L3.then Q.only (by have := L2.size; simp; omega)
  go_wp2_with fail
  refine (ilsh_self (w2.heap.size + 1) sr (x % u) w4 hr4 R.at_ (by omega)).mono ?_
  rintro e w5 ⟨rfl, sv, hv5, V⟩
  have hsr : ∀ t ∈ (w2.heap.size + 1) :: sb sr, w2.heap.size ≤ t := by
    intro t ht
    rcases List.mem_cons.1 ht with rfl | ht
    · omega
    · rcases R.low t ht with h | h
      · simp at h; omega
      · simp at h; omega
  have B5 : Below w2.heap.size w2 w5 := B4.trans (V.only.toBelow hsr B4.size)
  have L5 : Only [] w w5 := L4.then V.only (fun t ht => .inr (by have := hsr t ht; have := L2.size; omega))
  go_wp2_with fail
  refine (icmp_same (w2.heap.size + 1) w.heap.size false sv su (2 * (x % u)) u w5 hv5 ((B5.block _ hlt2).trans hu2) V.at_ (U.at_.frame U.at_.lt B5) (by omega)).mono ?_
  rintro e w6 ⟨rfl, n6, rfl⟩
  have e1 : (if false then cmpI (u : Int) ((2 * (x % u) : Nat) : Int) else cmpI ((2 * (x % u) : Nat) : Int) (u : Int)) = 0 := by
    rw [hl]
    simp [cmpI]
  rw [e1]
  have hpr : w2.heap.size ∉ (w2.heap.size + 1) :: sb sr := by
    simp only [List.mem_cons, not_or]
    exact ⟨by omega, fun hm => iob_apart hq4 R.at_ _ hm rfl⟩
  have hqs : ∀ b ∈ sb sq, b ∉ (w2.heap.size + 1) :: sb sr := by
    intro b hb hm
    rcases List.mem_cons.1 hm with h | h
    · exact iob_apart hr4 Q.at_ b hb h
    · exact hap b hb h
  have V4 : IntVal w4 w.heap.size w2.heap.size false (x / u) sq := ⟨by simpa [hneg] using hq4, Q.at_, L2.size, fun b hb => by
    rcases Q.low b hb with h | h
    · have := L2.size; simp at h; omega
    · have := L2.size; simp at h; omega, fun h0 => rfl⟩
  have V6 := (V4.only V.only hpr hqs).drewN n6
  obtain ⟨b, c, rfl⟩ := V6.one hq0
  obtain ⟨hc1, hcell⟩ : 1 ≤ c ∧ (w5.drewN n6).cell? ⟨b, 0, none⟩ = some (.int .u64 ((x / u : Nat) : Int)) := by
    rcases V6.nat.shape with ⟨h', _⟩ | ⟨b', c', h', h2, _, _, h3, _⟩
    · cases h'
    · cases h'; exact ⟨h2, h3⟩
  go_wp2_with fail
  refine (ibit1 w2.heap.size b c (x / u) false _ V6.cell hc1 hcell 1 hodd).mono ?_
  rintro e w6 ⟨rfl, rfl⟩
  go_wp2_with fail
  refine (newIntOne _).mono ?_
  rintro e w7 ⟨p7, s7, rfl, V7, O7⟩
  go_wp2_with fail
  have hsz : w.heap.size ≤ w7.heap.size := Nat.le_trans L5.size (by have := O7.size; simpa using this)
  refine (intAdd w2.heap.size p7 w.heap.size _ false false _ s7 (x / u) 1 w7 (V6.fresh O7) V7 (.inl rfl) hql hsz).mono ?_
  rintro e w8 ⟨rfl, s8, V8, _, O8⟩
  go_wp2_with fail
  go_ret
  exact ⟨_, s8, rfl, V8, ((L5.drewN n6).trans O7).then O8 (fun t ht => .inr (by
    rcases List.mem_cons.1 ht with rfl | ht
    · exact L2.size
    · exact V6.lows t ht))⟩
end Go.Proofs.YtpamkblhdgjlcaaGreatDoor
