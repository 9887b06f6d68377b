/- Walk of the quantiser's Step. -/
import Derived.Test.YtpamkblhdgjlcaaGreatDoorProg
import Derived.Test.YtpamkblhdgjlcaaGreatDoorBase
import Derived.Test.YtpamkblhdgjlcaaGreatDoorMem
import Derived.Test.YtpamkblhdgjlcaaGreatDoorInt3
import Derived.Test.YtpamkblhdgjlcaaGreatDoorIntV
import Derived.Test.YtpamkblhdgjlcaaGreatDoorQ1
import Derived.Test.YtpamkblhdgjlcaaGreatDoorQ2
import Derived.WalkKit
import Derived.WalkSpells
import Derived.WalkLawsBesides
import Derived.Handy
import Derived.Deep.QuietTactic
import Derived.BigQuiet
import Derived.Deep.RegionHeld3
set_option linter.unusedSimpArgs false
set_option linter.unusedVariables false
namespace Go.Proofs.YtpamkblhdgjlcaaGreatDoor
open Go.RowKit

def fixedV (bits b0 b1 b2 a1 a2 : Int) : Value := .agg #[.int .i64 bits, .int .i64 b0, .int .i64 b1, .int .i64 b2, .int .i64 a1, .int .i64 a2]
def stateV (x1 x2 y1 y2 : Int) : Value := .agg #[.int .i64 x1, .int .i64 x2, .int .i64 y1, .int .i64 y2]
theorem keptI_low (n : Int) : -2147483648 ≤ keptI n := by
  unfold keptI
  split
  · omega
  · split <;> omega
theorem keptI_high (n : Int) : keptI n ≤ 2147483647 := by
  unfold keptI
  split
  · omega
  · split <;> omega
def stepA (b0 b1 b2 a1 a2 : Int) : Nat → Int
  | 0 => keptI b0
  | 1 => keptI b1
  | 2 => keptI b2
  | 3 => -keptI a1
  | _ => -keptI a2
def stepB (x x1 x2 y1 y2 : Int) : Nat → Int
  | 0 => keptI x
  | 1 => keptI x1
  | 2 => keptI x2
  | 3 => keptI y1
  | _ => keptI y2
theorem stepA_abs (b0 b1 b2 a1 a2 : Int) (k : Nat) : (stepA b0 b1 b2 a1 a2 k).natAbs ≤ 2147483648 := by
  have h := fun n => And.intro (keptI_low n) (keptI_high n)
  unfold stepA
  split <;> (first | (have := h b0; omega) | (have := h b1; omega) | (have := h b2; omega) | (have := h a1; omega) | (have := h a2; omega))
theorem stepB_abs (x x1 x2 y1 y2 : Int) (k : Nat) : (stepB x x1 x2 y1 y2 k).natAbs ≤ 2147483648 := by
  have h := fun n => And.intro (keptI_low n) (keptI_high n)
  unfold stepB
  split <;> (first | (have := h x; omega) | (have := h x1; omega) | (have := h x2; omega) | (have := h y1; omega) | (have := h y2; omega))
theorem Only.cell {S : List Nat} {w w' : World} {b o : Nat} {v : Value} (h : Only S w w') (hc : w.cell? ⟨b, o, none⟩ = some v) (hb : b ∉ S) : w'.cell? ⟨b, o, none⟩ = some v := by
  have hlt := World.block_lt_of_cell? w _ hc
  have := h.block b hlt hb
  simp only [World.cell?] at hc ⊢
  rw [this]; exact hc
theorem pair_keep {S : List Nat} {w w' : World} {q : Nat} {u v : Value} (h : w.cell? ⟨q, 0, none⟩ = some u ∧ w.cell? ⟨q, 1, none⟩ = some v) (ho : Only S w w') (hq : q ∉ S) : w'.cell? ⟨q, 0, none⟩ = some u ∧ w'.cell? ⟨q, 1, none⟩ = some v := ⟨ho.cell h.1 hq, ho.cell h.2 hq⟩
theorem pair_alloc {w : World} {q : Nat} {u v : Value} (h : w.cell? ⟨q, 0, none⟩ = some u ∧ w.cell? ⟨q, 1, none⟩ = some v) (o : Obj) : (w.alloc o).cell? ⟨q, 0, none⟩ = some u ∧ (w.alloc o).cell? ⟨q, 1, none⟩ = some v := ⟨cell_old h.1, cell_old h.2⟩
theorem block_new' {w : World} {n : Nat} (h : w.heap.size = n) (o : Obj) : (w.alloc o).heap[n]? = some o := by subst h; exact block_new w o
theorem IntV.alloc {w : World} {B p : Nat} {v : Int} (h : IntV w B p v) (o : Obj) : IntV (w.alloc o) B p v := h.frame ((Only.refl [] w).alloc o)
theorem IntV.lo {w : World} {B p : Nat} {v : Int} (h : IntV w B p v) : B ≤ p := by
  obtain ⟨s, h⟩ := h
  exact h.low
theorem IntV.hi {w : World} {B p : Nat} {v : Int} (h : IntV w B p v) : p < w.heap.size := by
  obtain ⟨s, h⟩ := h
  exact h.size
theorem IntVal.base {w : World} {B B' p x : Nat} {neg : Bool} {s : Value} (h : IntVal w B p neg x s) (hp : B' ≤ p) (hB : B' ≤ B) : IntVal w B' p neg x s := ⟨h.cell, h.nat, hp, fun b hb => Nat.le_trans hB (h.lows b hb), h.sign⟩
/-- what was done since leaves all that was there -/
structure Chain (w w' : World) : Prop where
  out : Only [] w w'
theorem mul_small (a b : Int) (ha : a.natAbs ≤ 2147483648) (hb : b.natAbs ≤ 2147483648) : (a * b).natAbs < 18446744073709551616 := by
  rw [Int.natAbs_mul]
  have := Nat.mul_le_mul ha hb
  omega
theorem IntV.drew {w : World} {B p : Nat} {v : Int} (h : IntV w B p v) : IntV w.drew B p v := h.frame (Only.refl [] w).drew
theorem index_pairs (b0 b1 b2 a1 a2 x x1 x2 y1 y2 : Int) : ∀ k : Nat, k < 5 → ∀ w, (Instr.index 65 (.agg #[Value.int IntKind.i64 (keptI b0), Value.int IntKind.i64 (keptI x), Value.int IntKind.i64 (keptI b1),
    Value.int IntKind.i64 (keptI x1), Value.int IntKind.i64 (keptI b2), Value.int IntKind.i64 (keptI x2),
    Value.int IntKind.i64 (-keptI a1), Value.int IntKind.i64 (keptI y1), Value.int IntKind.i64 (-keptI a2),
    Value.int IntKind.i64 (keptI y2)]) (.int .i64 k)).run Tryz.prog w = .ok (.agg #[.int .i64 (stepA b0 b1 b2 a1 a2 k), .int .i64 (stepB x x1 x2 y1 y2 k)]) w
  | 0, _, _ => by kernel_rfl
  | 1, _, _ => by kernel_rfl
  | 2, _, _ => by kernel_rfl
  | 3, _, _ => by kernel_rfl
  | 4, _, _ => by kernel_rfl
set_option maxRecDepth 20000 in
set_option maxHeartbeats 4000000 in
theorem step_walk (bits b0 b1 b2 a1 a2 x1 x2 y1 y2 x r : Int) (w : World) (h1 : 1 ≤ bits) (h2 : bits ≤ 31) (I : Nat → Nat → World → Prop)
    (hI0 : ∀ w', w'.heap[w.heap.size + 1 + 1 + 1]? = some (iob false (.slice none 0 0)) → I 0 (w.heap.size + 1 + 1 + 1 + 1) w')
    (hfr : ∀ k T w1 w2, I k T w1 → T ≤ w1.heap.size → Only [] w1 w2 → I k T w2)
    (hadd : ∀ k T w1 py B2, k < 5 → I k T w1 → T ≤ w1.heap.size → IntV w1 B2 py (stepA b0 b1 b2 a1 a2 k * stepB x x1 x2 y1 y2 k) → T ≤ B2 →
      Calls Tryz.prog 26 #[.pointer (some ⟨w.heap.size + 1 + 1 + 1, 0, none⟩), .pointer (some ⟨w.heap.size + 1 + 1 + 1, 0, none⟩), .pointer (some ⟨py, 0, none⟩)] w1 fun e w' =>
        e = .returned (.pointer (some ⟨w.heap.size + 1 + 1 + 1, 0, none⟩)) ∧ I (k + 1) w'.heap.size w' ∧ ∃ S, Only S w1 w' ∧ ∀ s ∈ S, w.heap.size + 1 + 1 + 1 ≤ s ∧ s < T)
    (hnear : ∀ T w1, I 5 T w1 → Calls Tryz.prog 30 #[.pointer (some ⟨w.heap.size + 1 + 1 + 1, 0, none⟩), .int .i64 bits] w1 fun e w' =>
      ∃ p, e = .returned (.pointer (some ⟨p, 0, none⟩)) ∧ IntV w' w1.heap.size p r ∧ Only [] w1 w') :
    Calls Tryz.prog 11 #[fixedV bits b0 b1 b2 a1 a2, stateV x1 x2 y1 y2, .int .i64 x] w fun e w' =>
      e = .returned (.tuple #[.int .i64 (keptI r), stateV (keptI x) (keptI x1) (keptI r) (keptI y1), .bool (keptI r != r)]) ∧ Only [] w w' := by
  have hr := fun w => right_yes bits h1 h2 w
  have HR := Lib.hid hr
  have HK := Lib.hid (fun n w => kept_ n w)
  clear hr
  have n1 : IntKind.i64.wrap (-keptI a1) = -keptI a1 := by have := keptI_low a1; have := keptI_high a1; exact IntWalk.i64_in _ (by omega)
  have n2 : IntKind.i64.wrap (-keptI a2) = -keptI a2 := by have := keptI_low a2; have := keptI_high a2; exact IntWalk.i64_in _ (by omega)
  have HI : ∀ k : Nat, k < 5 → ∀ w, (Instr.index 65 (.agg #[Value.int IntKind.i64 (keptI b0), Value.int IntKind.i64 (keptI x), Value.int IntKind.i64 (keptI b1),
    Value.int IntKind.i64 (keptI x1), Value.int IntKind.i64 (keptI b2), Value.int IntKind.i64 (keptI x2),
    Value.int IntKind.i64 (-keptI a1), Value.int IntKind.i64 (keptI y1), Value.int IntKind.i64 (-keptI a2),
    Value.int IntKind.i64 (keptI y2)]) (.int .i64 k)).run Tryz.prog w = .ok (.agg #[.int .i64 (stepA b0 b1 b2 a1 a2 k), .int .i64 (stepB x x1 x2 y1 y2 k)]) w := index_pairs b0 b1 b2 a1 a2 x x1 x2 y1 y2
  have HIX := Lib.hid HI
  clear HI
  have hA := fun k => stepA_abs b0 b1 b2 a1 a2 k
  have hB := fun k => stepB_abs x x1 x2 y1 y2 k
  have HA := Lib.hid hA
  have HB := Lib.hid hB
  have HADD := Lib.hid hadd
  have HFR := Lib.hid hfr
  have HNEAR := Lib.hid hnear
  have HI0 := Lib.hid hI0
  clear hA hB hadd hfr hnear hI0
  unfold fixedV stateV
  go_enter Tryz.func11, Tryz.ntmps11
  go_wp2_with (first | (go_at_call 12; refine (HR.out _).mono ?_; rintro e w' ⟨rfl, rfl⟩) | (go_at_call 25; refine (HK.out _ _).mono ?_; rintro e w' ⟨rfl, rfl⟩))
  go_quiet ((first | (go_at_call 25; exact quiet_left (HK.out _ _)) | (go_at_call 25; exact quiet_add_left (HK.out _ _)) | (go_at_call 25; exact Calls.quiet_of_same (HK.out _ _))))
  go_wp2_with fail
  go_loopw [58] (fun i wr => ∃ k : Nat, k ≤ 5 ∧ i = .int .i64 k ∧ ∃ T, w.heap.size + 1 + 1 + 1 < T ∧ T ≤ wr.heap.size ∧ I k T wr ∧ Below (w.heap.size + 1 + 1 + 1) ((((w.alloc (.cells #[.int .i64 bits, .int .i64 b0, .int .i64 b1, .int .i64 b2, .int .i64 a1, .int .i64 a2] 42)).alloc (.cells #[.int .i64 x1, .int .i64 x2, .int .i64 y1, .int .i64 y2] 38)).alloc (.cells #[.int .i64 0, .int .i64 0, .int .i64 0, .int .i64 0] 38))) wr) (fun i _ => 5 - (intOf i).toNat)
  case atStart =>
    refine ⟨0, by omega, rfl, w.heap.size + 1 + 1 + 1 + 1, by omega, by simp, HI0.out _ ?_, ?_⟩
    · exact block_drewN (block_new' (by simp) _)
    · exact below_drewN ((below_self _).alloc (by simp) _ |>.mono (by simp)) _
  case round =>
    obtain ⟨k, hk, rfl, T, hT1, hT2, hI, hbel⟩ := hrel
    by_cases hlt : k < 5
    · have hx := HIX.out k hlt
      go_upto_region 8 with (fail)
      have c0 : (wr.alloc (.cells #[.int .i64 (stepA b0 b1 b2 a1 a2 k), .int .i64 (stepB x x1 x2 y1 y2 k)] 64)).cell? ⟨wr.heap.size, 0, none⟩ = some (.int .i64 (stepA b0 b1 b2 a1 a2 k)) := by simp [go_sem]
      have c1 : (wr.alloc (.cells #[.int .i64 (stepA b0 b1 b2 a1 a2 k), .int .i64 (stepB x x1 x2 y1 y2 k)] 64)).cell? ⟨wr.heap.size, 1, none⟩ = some (.int .i64 (stepB x x1 x2 y1 y2 k)) := by simp [go_sem]
      have hab := HA.out k
      have hbb := HB.out k
      have HI1 := Lib.hid hI
      have hsz0 : wr.heap.size < (wr.alloc (.cells #[.int .i64 (stepA b0 b1 b2 a1 a2 k), .int .i64 (stepB x x1 x2 y1 y2 k)] 64)).heap.size := by simp
      have HBEL := Lib.hid hbel
      have O0 : Only [] wr (wr.alloc (.cells #[.int .i64 (stepA b0 b1 b2 a1 a2 k), .int .i64 (stepB x x1 x2 y1 y2 k)] 64)) := (Only.refl [] wr).alloc _
      have HO0 : Chain _ _ := ⟨O0⟩
      clear O0
      clear hI hbel hx n1 n2
      generalize hA' : stepA b0 b1 b2 a1 a2 k = ak at *
      generalize hB' : stepB x x1 x2 y1 y2 k = bk at *
      generalize hw0 : wr.alloc (.cells #[.int .i64 ak, .int .i64 bk] 64) = w0 at *
      have HW0 := Lib.hid hw0
      clear hw0
      go_region_held3 (fun w' => w'.cell? ⟨wr.heap.size, 0, none⟩ = some (.int .i64 ak) ∧ w'.cell? ⟨wr.heap.size, 1, none⟩ = some (.int .i64 bk)) (first | exact ⟨c0, c1⟩ | exact pair_alloc (by assumption) _ | exact pair_keep (by assumption) (by assumption : Only _ _ _) (by first | assumption | (simp; omega) | simp)) (first | (go_at_call 28; refine (newIntV _ (by omega) _).mono ?_; rintro e w' ⟨p, rfl, V, O⟩; have hlo := V.lo; have hhi := V.hi; have hsz := O.size; (try simp at hlo); (try simp at hsz); have C : Chain wr _ := ⟨Only.trans (by (first | exact Chain.out (by assumption) | exact Only.drew (Chain.out (by assumption)) | exact Only.alloc (Chain.out (by assumption)) _ | exact Only.drew (Only.alloc (Chain.out (by assumption)) _))) O⟩) | (go_at_call 27; refine (intMulV _ _ _ _ _ ak bk _ (by first | exact block_new _ _ | (refine Only.at (by assumption) ?_ (by simp); first | exact block_new _ _ | exact block_drew (block_new _ _) | (refine Only.at (by assumption) ?_ (by simp); first | exact block_new _ _ | exact block_drew (block_new _ _)))) (by first | assumption | exact IntV.frame (by assumption) (by assumption) | exact IntV.alloc (by assumption) _ | exact IntV.alloc (IntV.frame (by assumption) (by assumption)) _ | exact IntV.frame (IntV.alloc (by assumption) _) (by assumption)) (by first | assumption | exact IntV.frame (by assumption) (by assumption) | exact IntV.alloc (by assumption) _ | exact IntV.alloc (IntV.frame (by assumption) (by assumption)) _ | exact IntV.frame (IntV.alloc (by assumption) _) (by assumption)) (by omega) (by omega) (by omega) (mul_small _ _ hab hbb)).mono ?_; rintro e w' ⟨rfl, ⟨s, V, hl⟩, O⟩; have hlo := V.low; have C : Chain wr _ := ⟨Only.then (by (first | exact Chain.out (by assumption) | exact Only.drew (Chain.out (by assumption)) | exact Only.alloc (Chain.out (by assumption)) _ | exact Only.drew (Only.alloc (Chain.out (by assumption)) _))) O (by simp; omega)⟩; have V2 : IntV _ w0.heap.size _ _ := ⟨s, V.base (by omega) (by omega)⟩) | (go_at_call 26; refine (HADD.out k T _ _ w0.heap.size hlt (HFR.out k T wr _ HI1.out hT2 (Chain.out (by assumption))) (by have := Only.size (Chain.out (by assumption : Chain wr _)); omega) (by rw [hA', hB']; assumption) (by omega)).mono ?_; rintro e w' ⟨rfl, hI', S, O, hS⟩; have hq : wr.heap.size ∉ S := fun hm => by have := hS _ hm; omega))
      all_goals
        have hw3 := C.out.size
        have B3 : Below (w.heap.size + 1 + 1 + 1) wr _ := Below.trans (C.out.toBelow (by simp) (by omega)) (O.toBelow (fun s hs => (hS s hs).1) (by omega))
        have HI2 := Lib.hid hI'
        have HB3 := Lib.hid (HBEL.out.trans B3)
        have hsz2 := O.size
        clear hI' B3 hS hq C
        go_wp2_with fail
        go_roundw
        case rel => exact ⟨k + 1, by omega, by go_num, _, by omega, Nat.le_refl _, HI2.out, HB3.out⟩
        case measure => simp [intOf]; omega
    · obtain rfl : k = 5 := by omega
      clear n1 n2
      have g0 : wr.cell? ⟨w.heap.size, 0, none⟩ = some (.int .i64 bits) := (hbel.cell (p := ⟨w.heap.size, 0, none⟩) (by simp; omega)).trans (by simp [go_sem])
      have g1 : wr.cell? ⟨w.heap.size + 1, 0, none⟩ = some (.int .i64 x1) := (hbel.cell (p := ⟨w.heap.size + 1, 0, none⟩) (by simp)).trans (by simp [go_sem])
      have g2 : wr.cell? ⟨w.heap.size + 1, 2, none⟩ = some (.int .i64 y1) := (hbel.cell (p := ⟨w.heap.size + 1, 2, none⟩) (by simp)).trans (by simp [go_sem])
      have hrb : wr.heap[w.heap.size + 1 + 1]? = some (.cells #[.int .i64 0, .int .i64 0, .int .i64 0, .int .i64 0] 38 (0, 0)) := (hbel.block _ (by omega)).trans (block_new' (by simp) _)
      have G1 := Lib.hid g1
      have G2 := Lib.hid g2
      have GR := Lib.hid hrb
      have HX := Lib.hid hI
      have HBEL := Lib.hid hbel
      clear g1 g2 hrb hI hbel
      go_wp2_with fail
      refine (HNEAR.out T _ HX.out).mono ?_
      rintro e w1 ⟨p, rfl, ⟨s, V⟩, O1⟩
      have HV := Lib.hid V
      have HO1 : Chain _ _ := ⟨O1⟩
      clear V O1
      go_wp2_with fail
      refine (clipped_ _ _ _ _ _ _ HV.out).mono ?_
      rintro e w2 ⟨rfl, O2⟩
      have hv : valI (decide (r < 0)) r.natAbs = r := by
        unfold valI
        by_cases h : r < 0
        · simp only [h, decide_true, if_true]; omega
        · simp only [h, decide_false]; simp; omega
      rw [hv]
      clear hv
      have O12 := HO1.out.trans O2
      have g1 := O12.cell G1.out (by simp)
      have g2 := O12.cell G2.out (by simp)
      have hrb := O12.at GR.out (by simp)
      have r0 := cell_of hrb 0 rfl
      have r1 := cell_of hrb 1 rfl
      have r2 := cell_of hrb 2 rfl
      have r3 := cell_of hrb 3 rfl
      have f0 := free_of hrb 0
      have f1 := free_of hrb 1
      have f2 := free_of hrb 2
      have f3 := free_of hrb 3
      have HRB := Lib.hid hrb
      have HO12 : Chain _ _ := ⟨O12⟩
      clear O12 O2 hrb g0
      go_wp2_with fail
      go_region_held3 (fun w' => w'.cell? ⟨w.heap.size + 1, 0, none⟩ = some (.int .i64 x1) ∧ w'.cell? ⟨w.heap.size + 1, 2, none⟩ = some (.int .i64 y1)) (first | exact ⟨g1, g2⟩ | assumption | go_keep) (first | (go_at_call 25; refine (HK.out _ _).mono ?_; rintro e w' ⟨rfl, rfl⟩))
      all_goals
        go_wp2_with fail
        refine bodyPost_ret (v := .tuple #[.int .i64 (keptI r), .agg #[.int .i64 (keptI x), .int .i64 (keptI x1), .int .i64 (keptI r), .int .i64 (keptI y1)], .bool (keptI r != r)]) (by simp [results, Tryz.results11, go_sem, r0, r1, r2, r3]) rfl ⟨rfl, ?_⟩
        have OA : Only [] w ((((w.alloc (.cells #[.int .i64 bits, .int .i64 b0, .int .i64 b1, .int .i64 b2, .int .i64 a1, .int .i64 a2] 42)).alloc (.cells #[.int .i64 x1, .int .i64 x2, .int .i64 y1, .int .i64 y2] 38)).alloc (.cells #[.int .i64 0, .int .i64 0, .int .i64 0, .int .i64 0] 38))) := (((Only.refl [] w).alloc _).alloc _).alloc _
        have OB := OA.trans ((Only.of_below (by simpa using HBEL.out) []).trans HO12.out)
        exact ((((OB.setCell (.inr (by simp; omega)) _).setCell (.inr (by simp; omega)) _).setCell (.inr (by simp; omega)) _).setCell (.inr (by simp; omega)) _).drew
end Go.Proofs.YtpamkblhdgjlcaaGreatDoor
