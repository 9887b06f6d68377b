/- The walks of the reference's over, take. The walk of the reference's DivN. -/
import Derived.Test.YtpamkblhdgjlcaaGreatDoorProg
import Derived.Test.YtpamkblhdgjlcaaGreatDoorBase
import Derived.Test.YtpamkblhdgjlcaaGreatDoorR7
import Derived.WalkKit
import Derived.WalkSpells
import Derived.WalkLawsBesides
import Derived.Handy
import Derived.Deep.QuietTactic
import Derived.Deep.OwnRows
import Derived.BigQuiet
import Derived.OwnWalk
import Derived.Laws.AppendOwn
set_option linter.unusedSimpArgs false
set_option linter.unusedVariables false
namespace Go.Proofs.YtpamkblhdgjlcaaGreatDoor
open Go.RowKit

theorem nd_word {t : Nat} (h : t < 18446744073709551616) : nd t ≤ 2 := (nd_le t 2).2 h
theorem nd_mul (a b : Nat) : nd (a * b) ≤ nd a + nd b := (nd_le _ _).2 (mul_lt (lt_P a) (lt_P b))
/-- products, differences, sums of numbers in slices -/
theorem mul_num (v u : Value) (a b : Nat) (w : World) (hv : Num w v a) (hu : Num w u b) (ha : nd a ≤ 1099511627776) (hb : nd b ≤ 1099511627776) :
    Calls Tryz.prog 36 #[v, u] w fun e w' => ∃ x, e = .returned x ∧ Num w' x (a * b) ∧ Only [] w w' := by
  obtain ⟨A, c, rfl, _, _, hr⟩ := hv
  obtain ⟨A', c', rfl, _, _, hr'⟩ := hu
  exact mulN_ A A' _ _ c c' a b w (lt_P a) (lt_P b) ha hb hr hr'
theorem add_num (v u : Value) (a b : Nat) (w : World) (hv : Num w v a) (hu : Num w u b) (ha : nd a ≤ 1099511627776) (hb : nd b ≤ 1099511627776) :
    Calls Tryz.prog 56 #[v, u] w fun e w' => ∃ x, e = .returned x ∧ Num w' x (a + b) ∧ Only [] w w' := by
  obtain ⟨A, c, rfl, _, _, hr⟩ := hv
  obtain ⟨A', c', rfl, _, _, hr'⟩ := hu
  exact addN_ A A' _ _ c c' a b w (lt_P a) (lt_P b) ha hb hr hr'
theorem sub_num (v u : Value) (a b : Nat) (w : World) (hv : Num w v a) (hu : Num w u b) (hab : b ≤ a) (ha : nd a ≤ 1099511627776) :
    Calls Tryz.prog 58 #[v, u] w fun e w' => ∃ x, e = .returned x ∧ Num w' x (a - b) ∧ Only [] w w' ∧ Fresh w.heap.size x := by
  obtain ⟨A, c, rfl, _, _, hr⟩ := hv
  obtain ⟨A', c', rfl, _, _, hr'⟩ := hu
  exact subN_ A A' _ _ c c' a b w (lt_P a) (lt_P b) hab ha (Nat.le_trans (nd_mono hab) ha) hr hr'
theorem shl_num (v : Value) (a n : Nat) (w : World) (hv : Num w v a) (ha : nd a ≤ 1099511627776) (hn : n ≤ 1099511627776) :
    Calls Tryz.prog 37 #[v, .int .i64 (n : Int)] w fun e w' => ∃ x, e = .returned x ∧ OwnD w' w.heap.size x (nd (a * 2 ^ n)) (a * 2 ^ n) ∧ Only [] w w' := by
  obtain ⟨A, c, rfl, _, _, hr⟩ := hv
  exact shlN_ A _ c a n w (lt_P a) ha hn hr
theorem cmpn_one (x y : Nat) : decide ((0 : Int) < cmpNat x y) = decide (y < x) := by
  unfold cmpNat
  by_cases h1 : x < y
  · rw [if_pos h1, decide_eq_false (by omega), decide_eq_false (by omega)]
  · by_cases h2 : y < x
    · rw [if_neg h1, if_pos h2, decide_eq_true h2, decide_eq_true (by omega)]
    · rw [if_neg h1, if_neg h2, decide_eq_false h2, decide_eq_false (by omega)]
set_option maxRecDepth 8000 in
set_option maxHeartbeats 2000000 in
theorem over_ (g j L c p b t : Nat) (u : Value) (w : World) (hp : p < P L) (hc : L ≤ c) (hL : L ≤ 1099511627776) (hr : Row w (some ⟨g, j, none⟩) L p) (hu : Num w u b) (hb : nd b ≤ 549755813888) (ht : t < 18446744073709551616) :
    Calls Tryz.prog 84 #[.slice (some ⟨g, j, none⟩) L c, u, .int .u64 (t : Int)] w fun e w' => e = .returned (.bool (decide (p < b * t))) ∧ Only [] w w' := by
  have HR := Lib.hid hr
  have HU := Lib.hid hu
  have HP := Lib.hid hp
  have HT := Lib.hid ht
  have HB := Lib.hid hb
  have HC := Lib.hid hc
  have HBT := Lib.hid (show nd (b * t) ≤ 2199023255552 by have := nd_mul b t; have := nd_word ht; omega)
  clear hr hu hp ht hb hc
  go_enter Tryz.func84, Tryz.ntmps84
  go_wp2_with first
    | (go_at_call 38; refine (word_ t HT.out _).mono ?_; rintro e w1 ⟨v1, rfl, hn, ho⟩; have HN1 := Lib.hid hn; have HO1 := Lib.hid ho; clear hn ho)
    | (go_at_call 36; refine (mul_num u v1 b t w1 (HU.out.frame HO1.out) HN1.out (by have := HB.out; omega) (by have := nd_word HT.out; omega)).mono ?_; rintro e w2 ⟨v2, rfl, hn, ho⟩; have HN2 := Lib.hid hn; have HO2 := Lib.hid ho; clear hn ho)
    | (go_at_call 62; refine (norm_ (some ⟨g, j, none⟩) L c p w2 HP.out HC.out (fun h => by cases h) (by omega) ((HR.out.frame HO1.out).frame HO2.out)).mono ?_; rintro e w3 ⟨v3, rfl, hn, rfl⟩; have HN3 := Lib.hid hn; clear hn)
    | (go_at_call 57; refine (cmp_ v2 v3 (b * t) p w2 HN2.out HN3.out HBT.out).mono ?_; rintro e w4 ⟨rfl, ho⟩; have HO4 := Lib.hid ho; clear ho)
  go_ret
  refine ⟨?_, (HO1.out.trans HO2.out).trans HO4.out⟩
  rw [← cmpn_one]
  first | rfl | simp
/-- cells of one block that can be written, by what they hold -/
def Cells (w : World) (g L : Nat) (f : Nat → Nat) : Prop := ∀ i, i < L → w.cell? ⟨g, i, none⟩ = some (.int .u64 ((f i : Nat) : Int)) ∧ w.frozen? ⟨g, i, none⟩ = false
theorem Cells.congr {w : World} {g L : Nat} {f f' : Nat → Nat} (h : Cells w g L f) (e : ∀ i, i < L → f i = f' i) : Cells w g L f' := fun i hi => by rw [← e i hi]; exact h i hi
theorem Cells.set {w : World} {g L : Nat} {f : Nat → Nat} (h : Cells w g L f) {k : Nat} (hk : k < L) (d : Nat) : Cells (w.setCell ⟨g, k, none⟩ (.int .u64 (d : Int))) g L (fun i => if i = k then d else f i) := fun i hi => by
  refine ⟨?_, by rw [World.frozen?_setCell]; exact (h i hi).2⟩
  by_cases e : i = k
  · subst e
    rw [World.cell?_setCell_same _ _ _ (h i hi).1]
    simp only [if_pos]
  · rw [World.cell?_setCell_other _ _ _ _ (by intro h'; simp only [Addr.mk.injEq, and_true, true_and] at h'; exact e h'.symm)]
    simp only [if_neg e]
    exact (h i hi).1
theorem Cells.frame {w w' : World} {g L : Nat} {f : Nat → Nat} (h : Cells w g L f) (ho : Only [] w w') : Cells w' g L f := fun i hi => by
  have hlt := World.block_lt_of_cell? w _ (h i hi).1
  have hb := ho.block g hlt (by simp)
  exact ⟨by rw [World.cell?_of_block (w := w) hb]; exact (h i hi).1, by rw [World.frozen?_of_block (w := w) hb]; exact (h i hi).2⟩
theorem Cells.row {w : World} {g L x : Nat} (h : Cells w g L (dg x)) : Row w (some ⟨g, 0, none⟩) L x := .inr ⟨g, 0, rfl, fun i hi => by rw [Nat.zero_add]; exact (h i hi).1⟩
/-- a row in another block than the one that is written -/
theorem Row.other {w w' : World} {v : Value} {A : Option Addr} {L x g l c : Nat} (h : Row w A L x) (ho : Only [g] w w') (hA : ∀ a, A = some a → a.block ≠ g) : Row w' A L x := by
  rcases h with h | ⟨b, o, hA', h⟩
  · exact .inl h
  · exact .inr ⟨b, o, hA', fun i hi => by
      have hc := h i hi
      have hlt := World.block_lt_of_cell? w _ hc
      have hb := ho.block b hlt (by
        have := hA _ hA'
        simpa using this)
      rw [World.cell?_of_block (w := w) hb]; exact hc⟩
theorem take_at (R D j n i : Nat) (hD : D < P n) (hR : R < P (j + n)) : dg (R % P j + D * P j) i = if j ≤ i ∧ i < j + n then dg D (i - j) else dg R i := by
  have hm := Nat.mod_lt R (P_pos j)
  rcases Nat.lt_or_ge i j with h | h
  · rw [if_neg (by omega), dg_low hm h, dg_mod _ _ _ h]
  · obtain ⟨k, rfl⟩ : ∃ k, i = j + k := ⟨i - j, by omega⟩
    rw [dg_high hm, Nat.add_sub_cancel_left]
    by_cases hk : k < n
    · rw [if_pos (by omega)]
    · rw [if_neg (by omega), dg_zero (Nat.lt_of_lt_of_le hD (P_mono (by omega))), dg_zero (Nat.lt_of_lt_of_le hR (P_mono (by omega)))]
set_option maxRecDepth 8000 in
set_option maxHeartbeats 4000000 in
theorem take_ (g j n c L R b t : Nat) (u : Value) (w : World) (hR : R < P (j + n)) (hjn : j + n ≤ L) (hn0 : 0 < n) (hL : L ≤ 549755813888) (hc : n ≤ c) (hr : Cells w g L (dg R)) (hu : Num w u b) (hb : nd b ≤ 549755813888) (ht : t < 18446744073709551616) (hle : b * t ≤ R / P j) :
    Calls Tryz.prog 85 #[.slice (some ⟨g, j, none⟩) n c, u, .int .u64 (t : Int)] w fun e w' => e = .returned (.tuple #[]) ∧ Cells w' g L (dg (R % P j + (R / P j - b * t) * P j)) ∧ Only [g] w w' := by
  have HR := Lib.hid hr
  have HU := Lib.hid hu
  have HT := Lib.hid ht
  have HB := Lib.hid hb
  have HC := Lib.hid hc
  have HLE := Lib.hid hle
  have hp : R / P j < P n := by have := div_lt_P hR (Nat.le_add_right j n); rwa [Nat.add_sub_cancel_left] at this
  have HP := Lib.hid hp
  have hrow : Row w (some ⟨g, j, none⟩) n (R / P j) := by
    refine .inr ⟨g, j, rfl, fun i hi => ?_⟩
    rw [dg_div]
    exact (hr (j + i) (by omega)).1
  have HROW := Lib.hid hrow
  have HRR := Lib.hid hR
  have HN := Lib.hid (show nd (R / P j) ≤ 1099511627776 by have := (nd_le _ _).2 hp; omega)
  clear hr hu ht hb hle hp hrow hR hc
  go_enter Tryz.func85, Tryz.ntmps85
  go_wp2_with first
    | (go_at_call 62; refine (norm_ (some ⟨g, j, none⟩) n c (R / P j) w HP.out HC.out (fun h => by cases h) (by omega) HROW.out).mono ?_; rintro e w3 ⟨v3, rfl, hn, rfl⟩; have HN3 := Lib.hid hn; clear hn)
    | (go_at_call 38; refine (word_ t HT.out _).mono ?_; rintro e w1 ⟨v1, rfl, hn, ho⟩; have HN1 := Lib.hid hn; have HO1 := Lib.hid ho; clear hn ho)
    | (go_at_call 36; refine (mul_num u v1 b t w1 (HU.out.frame HO1.out) HN1.out (by have := HB.out; omega) (by have := nd_word HT.out; omega)).mono ?_; rintro e w2 ⟨v2, rfl, hn, ho⟩; have HN2 := Lib.hid hn; have HO2 := Lib.hid ho; clear hn ho)
    | (go_at_call 58; refine (sub_num v3 v2 (R / P j) (b * t) w2 ((HN3.out.frame HO1.out).frame HO2.out) HN2.out HLE.out HN.out).mono ?_; rintro e w4 ⟨v4, rfl, hn, ho, hf⟩; have HO4 := Lib.hid ((HO1.out.trans HO2.out).trans ho); have HF4 := Lib.hid (Fresh.mono hf (HO1.out.trans HO2.out).size); obtain ⟨A4, c4, rfl, hc4, hA4, hr4⟩ := hn; have HR4 := Lib.hid hr4; clear hr4 hA4 ho hf)
  obtain ⟨D, hD⟩ : ∃ D : Nat, D = R / P j - b * t := ⟨_, rfl⟩
  have hDn : D < P n := by rw [hD]; exact Nat.lt_of_le_of_lt (Nat.sub_le _ _) HP.out
  have HDEQ := Lib.hid hD
  rw [← hD] at hc4 HR4 HF4 ⊢
  have hndD : nd D ≤ n := (nd_le D n).2 hDn
  have hgA : ∀ a, A4 = some a → a.block ≠ g := by
    rintro a rfl hag
    rcases Nat.eq_zero_or_pos L with h0 | h0
    · omega
    · have h1 := HF4.out a.block rfl
      have h2 := World.block_lt_of_cell? w _ (HR.out 0 h0).1
      simp only at h2
      omega
  have HG := Lib.hid hgA
  have HDN := Lib.hid hDn
  have HCE := Lib.hid (HR.out.frame HO4.out)
  clear hgA hD hDn
  go_loopw [7] (fun i wr => ∃ k : Nat, k ≤ n ∧ i = .int .i64 (k : Int) ∧ Cells wr g L (fun i => if j ≤ i ∧ i < j + k then dg D (i - j) else dg R i) ∧ Only [g] w4 wr) (fun i _ => n - (intOf i).toNat)
  case atStart => exact ⟨0, Nat.zero_le _, rfl, HCE.out.congr (fun i _ => by rw [if_neg (by omega)]), Only.refl _ _⟩
  case round =>
    obtain ⟨k, hk, rfl, hcs, ho⟩ := hrel
    have HO := Lib.hid ho
    have HCS := Lib.hid hcs
    by_cases hkn : k < n
    · have hjk : j + k < L := by omega
      have hcc := (hcs (j + k) hjk).1
      have hfr := (hcs (j + k) hjk).2
      have hset0 := hcs.set hjk 0
      have d1 : decide (k < n) = true := decide_eq_true hkn
      by_cases hkd : k < nd D
      · obtain ⟨b4, o4, rfl, hc4⟩ : ∃ bk ok, A4 = some ⟨bk, ok, none⟩ ∧ wr.cell? ⟨bk, ok + k, none⟩ = some (.int .u64 ((dg D k : Nat) : Int)) := by
          rcases HR4.out.other (v := .slice A4 0 0) (l := 0) (c := 0) ho HG.out with h | ⟨bk, ok, hA, h⟩
          · omega
          · exact ⟨bk, ok, hA, h k hkd⟩
        have hne : b4 ≠ g := by have := HG.out _ rfl; exact this
        have hset := (hset0.set hjk (dg D k))
        have hcc2 := (hset0 (j + k) hjk).1
        have hfr2 := (hset0 (j + k) hjk).2
        have hset := Lib.hid ((hset0.set hjk (dg D k)).congr (f' := fun i => if j ≤ i ∧ i < j + (k + 1) then dg D (i - j) else dg R i) (fun i _ => by
          by_cases e : i = j + k
          · subst e
            simp only [if_pos, Nat.add_sub_cancel_left]
            rw [if_pos (by omega)]
          · simp only [if_neg e]
            by_cases e2 : j ≤ i ∧ i < j + k
            · rw [if_pos e2, if_pos (by omega)]
            · rw [if_neg e2, if_neg (by omega)]))
        have d2 : decide (k < nd D) = true := decide_eq_true hkd
        clear hset0 hcs ho
        generalize ((dg D k : Nat) : Int) = dd at *
        go_wp2_with fail
        go_roundw
        case rel => exact ⟨k + 1, by omega, by go_num, hset.out, (HO.out.setCell (.inl (by simp)) _).setCell (.inl (by simp)) _⟩
        case measure => simp [intOf]; omega
      · have hz : dg D k = 0 := dg_zero ((nd_le D k).1 (by omega))
        have hset := Lib.hid (hset0.congr (f' := fun i => if j ≤ i ∧ i < j + (k + 1) then dg D (i - j) else dg R i) (fun i _ => by
          by_cases e : i = j + k
          · subst e
            simp only [if_pos, Nat.add_sub_cancel_left]
            rw [if_pos (by omega), hz]
          · simp only [if_neg e]
            by_cases e2 : j ≤ i ∧ i < j + k
            · rw [if_pos e2, if_pos (by omega)]
            · rw [if_neg e2, if_neg (by omega)]))
        have d2 : decide (k < nd D) = false := decide_eq_false hkd
        clear hset0 hcs ho hz
        go_wp2_with fail
        go_roundw
        case rel => exact ⟨k + 1, by omega, by go_num, hset.out, HO.out.setCell (.inl (by simp)) _⟩
        case measure => simp [intOf]; omega
    · obtain rfl : k = n := by omega
      have hfin : Cells wr g L (dg (R % P j + D * P j)) := hcs.congr (fun i _ => (take_at R D j k i HDN.out HRR.out).symm)
      have HF := Lib.hid hfin
      clear hfin hcs
      go_wp2_with fail
      go_end0
      rw [← HDEQ.out]
      refine ⟨rfl, HF.out, (Only.mono HO4.out (fun s h => by cases h)).trans HO.out⟩
end Go.Proofs.YtpamkblhdgjlcaaGreatDoor
namespace Go.Proofs.YtpamkblhdgjlcaaGreatDoor
open Go.RowKit

/-! what stands in blocks that are not written -/
theorem Row.off {w w' : World} {A : Option Addr} {L x : Nat} {S : List Nat} (h : Row w A L x) (ho : Only S w w') (hA : ∀ a, A = some a → a.block ∉ S) : Row w' A L x := by
  rcases h with h | ⟨b, o, hA', h⟩
  · exact .inl h
  · exact .inr ⟨b, o, hA', fun i hi => by
      have hc := h i hi
      have hlt := World.block_lt_of_cell? w _ hc
      have hb := ho.block b hlt (hA _ hA')
      rw [World.cell?_of_block (w := w) hb]; exact hc⟩
theorem Cells.off {w w' : World} {g L : Nat} {f : Nat → Nat} {S : List Nat} (h : Cells w g L f) (ho : Only S w w') (hg : g ∉ S) : Cells w' g L f := fun i hi => by
  have hlt := World.block_lt_of_cell? w _ (h i hi).1
  have hb := ho.block g hlt hg
  exact ⟨by rw [World.cell?_of_block (w := w) hb]; exact (h i hi).1, by rw [World.frozen?_of_block (w := w) hb]; exact (h i hi).2⟩
theorem RowD.off {w w' : World} {g L x : Nat} {S : List Nat} (h : RowD w g L x) (ho : Only S w w') (hg : g ∉ S) : RowD w' g L x :=
  World.rowIs.of_block h (ho.block g (World.rowIs.lt h) hg)
theorem OwnD.cells {w : World} {base : Nat} {v : Value} {k x : Nat} (h : OwnD w base v k x) (hk : 0 < k) : ∃ g c, v = .slice (some ⟨g, 0, none⟩) k c ∧ base ≤ g ∧ g < w.heap.size ∧ k ≤ c ∧ Cells w g k (dg x) := by
  rcases h.2 with ⟨rfl, rfl⟩ | ⟨g, cap, cur, rfl, hb, hh, hc, _, hs, ht⟩
  · omega
  · refine ⟨g, cap, rfl, hb, lt_of_block hh, hc, fun i hi => ⟨?_, free_of hh i⟩⟩
    have hg := digs_get x k i hi
    rw [← ht, List.getElem?_take] at hg
    rw [if_pos (by omega)] at hg
    simp only [World.cell?, hh]
    simpa using hg
theorem nd_shl {b s : Nat} (hb : b ≠ 0) (hs : bits b + s = 32 * nd b) : nd (b * 2 ^ s) = nd b := by
  refine eq_of_le fun k => ?_
  rw [nd_le, P_two]
  have e : b * 2 ^ s < 2 ^ (32 * k) ↔ bits b + s ≤ 32 * k := by
    rcases Nat.lt_or_ge (32 * k) s with h | h
    · have h1 : 2 ^ (32 * k) ≤ b * 2 ^ s := by
        refine Nat.le_trans (Nat.pow_le_pow_right (by decide) (Nat.le_of_lt h)) (Nat.le_mul_of_pos_left _ (by omega))
      have := bits_pos hb
      omega
    · obtain ⟨j, hj⟩ : ∃ j, 32 * k = j + s := ⟨32 * k - s, by omega⟩
      rw [hj, Nat.pow_add, Nat.mul_lt_mul_right (Nat.pow_pos (by decide)), ← bits_le]
      omega
  rw [e, hs]
  omega
theorem bits_nd {b : Nat} (hb : b ≠ 0) : bits b ≤ 32 * nd b ∧ 32 * nd b < bits b + 32 := by
  constructor
  · rw [bits_le, ← P_two]; exact lt_P b
  · obtain ⟨L, hL⟩ : ∃ L, nd b = L + 1 := ⟨nd b - 1, by have := nd_pos hb; omega⟩
    have h : ¬ bits b ≤ 32 * L := by
      rw [bits_le, ← P_two, ← nd_le]
      omega
    omega
theorem P_le_of_nd {x k : Nat} (h : k < nd x) : P k ≤ x := by
  rcases Nat.lt_or_ge x (P k) with h' | h'
  · have := (nd_le x k).2 h'; omega
  · exact h'
theorem dg_top {x n : Nat} (h : nd x = n + 1) : dg x n ≠ 0 := by
  intro h0
  have h1 := lt_P x
  rw [h] at h1
  have := (nd_le x n).2 (lt_of_dg_zero h1 h0)
  omega
/-- the first guess at a digit is not too small -/
theorem guess {p b n : Nat} (hb : b < P (n + 1)) (hb0 : dg b n ≠ 0) (hp : p < b * 4294967296) : dg p (n + 1) * 4294967296 + dg p n = p / P n ∧ p / b ≤ min (p / P n / dg b n) 4294967295 := by
  have hpp : p < P (n + 2) := by
    rw [P_succ]
    exact Nat.lt_of_lt_of_le hp (Nat.mul_le_mul_right _ (Nat.le_of_lt hb))
  have e1 : dg p (n + 1) = p / P (n + 1) := by
    unfold dg
    rw [Nat.mod_eq_of_lt]
    rw [Nat.div_lt_iff_lt_mul (P_pos _), Nat.mul_comm, ← P_succ]
    exact hpp
  refine ⟨by rw [e1, ← div_step], Nat.le_min.2 ⟨?_, ?_⟩⟩
  · have e2 : dg b n = b / P n := by
      unfold dg
      rw [Nat.mod_eq_of_lt]
      rw [Nat.div_lt_iff_lt_mul (P_pos _), Nat.mul_comm, ← P_succ]
      exact hb
    rw [e2] at hb0 ⊢
    rw [Nat.le_div_iff_mul_le (by omega), Nat.le_div_iff_mul_le (P_pos n)]
    have h1 : b / P n * P n ≤ b := Nat.div_mul_le_self b (P n)
    have h2 : p / b * b ≤ p := Nat.div_mul_le_self p b
    rw [Nat.mul_assoc]
    exact Nat.le_trans (Nat.mul_le_mul_left _ h1) h2
  · have h0 : 0 < b := by
      rcases Nat.eq_zero_or_pos b with h | h
      · rw [h] at hp; omega
      · exact h
    have : p / b < 4294967296 := by
      rw [Nat.div_lt_iff_lt_mul h0, Nat.mul_comm]
      exact hp
    omega
/-- one step of the school's division -/
theorem div_round {R Q Rk b j : Nat} (hE : R = Q * P (j + 1) * b + Rk) (hb : 0 < b) :
    R = (Q * 4294967296 + Rk / P j / b) * P j * b + (Rk % P j + (Rk / P j - b * (Rk / P j / b)) * P j) ∧ Rk % P j + (Rk / P j - b * (Rk / P j / b)) * P j < b * P j := by
  have h1 := Nat.mod_add_div Rk (P j)
  have h2 := Nat.mod_lt Rk (P_pos j)
  have h3 := Nat.div_add_mod (Rk / P j) b
  have h4 := Nat.mod_lt (Rk / P j) hb
  generalize Rk % P j = lo at *
  generalize Rk / P j = p at *
  generalize p / b = t at *
  have h5 : p - b * t = p % b := by omega
  rw [h5]
  generalize p % b = x at *
  constructor
  · rw [hE, P_succ, ← h1, ← h3]
    have e1 : P j * (b * t + x) = t * P j * b + x * P j := by
      rw [Nat.mul_add, Nat.mul_comm (P j) x]
      congr 1
      rw [Nat.mul_comm b t, Nat.mul_left_comm, Nat.mul_assoc]
    rw [e1, Nat.add_mul, Nat.add_mul, Nat.mul_comm (P j) 4294967296, ← Nat.mul_assoc Q]
    omega
  · have : (x + 1) * P j ≤ b * P j := Nat.mul_le_mul_right _ h4
    rw [Nat.add_mul, Nat.one_mul] at this
    omega
theorem div_end {a b s Q R0 : Nat} (hE : a * 2 ^ s = Q * (b * 2 ^ s) + R0) (hR : R0 < b * 2 ^ s) : Q = a / b ∧ R0 / 2 ^ s = a % b := by
  have h2 : 0 < 2 ^ s := Nat.pow_pos (by decide)
  have hb : 0 < b := by
    rcases Nat.eq_zero_or_pos b with h | h
    · rw [h, Nat.zero_mul] at hR; omega
    · exact h
  have q1 : Q = a * 2 ^ s / (b * 2 ^ s) := by
    rw [hE, Nat.add_comm, Nat.add_mul_div_right _ _ (by omega), Nat.div_eq_of_lt hR, Nat.zero_add]
  have q2 : R0 = a * 2 ^ s % (b * 2 ^ s) := by
    rw [hE, Nat.add_comm, Nat.add_mul_mod_self_right, Nat.mod_eq_of_lt hR]
  rw [Nat.mul_div_mul_right _ _ h2] at q1
  rw [Nat.mul_mod_mul_right] at q2
  exact ⟨q1, by rw [q2, Nat.mul_div_cancel _ h2]⟩
end Go.Proofs.YtpamkblhdgjlcaaGreatDoor
