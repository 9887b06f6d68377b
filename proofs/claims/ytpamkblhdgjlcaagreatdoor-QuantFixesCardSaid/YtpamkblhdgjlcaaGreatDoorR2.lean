/- Rows of digits that a call makes for itself; the walk of the reference's AddN. -/
import Derived.Test.YtpamkblhdgjlcaaGreatDoorProg
import Derived.Test.YtpamkblhdgjlcaaGreatDoorBase
import Derived.Test.YtpamkblhdgjlcaaGreatDoorRA
import Derived.WalkKit
import Derived.WalkSpells
import Derived.WalkLawsBesides
import Derived.Handy
import Derived.Deep.QuietTactic
import Derived.BigQuiet
import Derived.OwnWalk
import Derived.Laws.AppendOwn
set_option linter.unusedSimpArgs false
set_option linter.unusedVariables false
namespace Go.Proofs.YtpamkblhdgjlcaaGreatDoor
open Go.RowKit

/-- the first k digits of x as cells -/
def digs (x k : Nat) : List Value := (List.range k).map fun i => .int .u64 ((dg x i : Nat) : Int)
theorem digs_len (x k : Nat) : (digs x k).length = k := by simp [digs]
theorem digs_get (x k i : Nat) (h : i < k) : (digs x k)[i]? = some (.int .u64 ((dg x i : Nat) : Int)) := by
  simp [digs, h]
theorem digs_zero (x : Nat) : digs x 0 = [] := rfl
theorem digs_snoc (x d k : Nat) (hx : x < P k) (hd : d < 4294967296) : digs (x + d * P k) (k + 1) = digs x k ++ [.int .u64 (d : Int)] := by
  unfold digs
  rw [List.range_succ, List.map_append]
  congr 1
  · refine List.map_congr_left fun i hi => ?_
    rw [dg_low hx (List.mem_range.1 hi)]
  · have := dg_high (i := 0) (b := d) hx
    rw [Nat.add_zero] at this
    simp only [List.map_cons, List.map_nil, this, dg_one d hd]
/-- a row of the call's own that holds k digits of x -/
def OwnD (w : World) (base : Nat) (v : Value) (k x : Nat) : Prop := w.ownsRow base 22 1 v k (digs x k)
theorem OwnD.row {w : World} {base : Nat} {v : Value} {k x : Nat} (h : OwnD w base v k x) : ∃ A c, v = .slice A k c ∧ k ≤ c ∧ (A = none → c = 0) ∧ Row w A k x := by
  rcases h.2 with ⟨rfl, rfl⟩ | ⟨g, cap, cur, rfl, _, hh, hk, _, hs, ht⟩
  · exact ⟨none, 0, rfl, Nat.le_refl _, fun _ => rfl, .inl rfl⟩
  · refine ⟨_, _, rfl, hk, (fun h => by cases h), .inr ⟨g, 0, rfl, fun i hi => ?_⟩⟩
    have hg := digs_get x k i hi
    rw [← ht, List.getElem?_take] at hg
    rw [if_pos (by omega)] at hg
    simp only [World.cell?, hh, Nat.zero_add]
    simpa using hg
theorem OwnD.snoc {w : World} {base : Nat} {v : Value} {k x d : Nat} (hx : x < P k) (hd : d < 4294967296) (h : w.ownsRow base 22 1 v (k + 1) (digs x k ++ [.int .u64 (d : Int)])) : OwnD w base v (k + 1) (x + d * P k) := by
  unfold OwnD
  rw [digs_snoc x d k hx hd]
  exact h
theorem snoc_lt {x d k : Nat} (hx : x < P k) (hd : d < 4294967296) : x + d * P k < P (k + 1) := by
  rw [P_succ]
  have : (d + 1) * P k ≤ 4294967296 * P k := Nat.mul_le_mul_right _ hd
  rw [Nat.add_mul, Nat.one_mul] at this
  rw [Nat.mul_comm (P k)]
  omega
theorem OwnD.cut {w : World} {base : Nat} {A : Option Addr} {k c x : Nat} (h : OwnD w base (.slice A k c) k x) (hx : x < P k) : OwnD w base (.slice A (nd x) c) (nd x) x := by
  have hk := (nd_le x k).2 hx
  refine ⟨by rw [digs_len, Nat.mul_one], ?_⟩
  rcases h.2 with ⟨h1, h2⟩ | ⟨g, cap, cur, hv, hb, hh, hkc, hm, hs, ht⟩
  · cases h1
    have : nd x = 0 := by omega
    rw [this]
    exact .inl ⟨rfl, rfl⟩
  · cases hv
    refine .inr ⟨g, _, cur, rfl, hb, hh, by omega, hm, hs, ?_⟩
    have h3 := congrArg (List.take (nd x)) ht
    rw [List.take_take, Nat.mul_one, Nat.min_eq_left hk] at h3
    rw [Nat.mul_one, h3]
    unfold digs
    rw [← List.map_take, List.take_range, Nat.min_eq_left hk]
theorem OwnD.num {w : World} {base : Nat} {v : Value} {x : Nat} (h : OwnD w base v (nd x) x) : Num w v x := by
  obtain ⟨A, c, rfl, h1, h2, h3⟩ := h.row
  exact ⟨A, c, rfl, h1, h2, h3⟩
/-- the block of a slice, if it has one, is not older than B -/
def Fresh (B : Nat) (v : Value) : Prop := ∀ k, v.ownBlock = some k → B ≤ k
theorem Fresh.mono {B B' : Nat} {v : Value} (h : Fresh B v) (hB : B' ≤ B) : Fresh B' v := fun k hk => Nat.le_trans hB (h k hk)
theorem Fresh.some {B g o l c : Nat} (h : B ≤ g) : Fresh B (.slice (some ⟨g, o, none⟩) l c) := fun k hk => by
  have : g = k := by simpa [Value.ownBlock] using hk
  omega
theorem info_word : (Tryz.prog.info? 22).map (fun i => (i.zero, i.size, i.bytes)) = some (some (.int .u64 0), 1, 8) := by kernel_rfl
theorem wrap_div (n : Nat) (h : n < 18446744073709551616) : IntKind.u64.wrap ((n : Int) / 4294967296) = ((n / 4294967296 : Nat) : Int) := by
  show ((n : Int) / 4294967296) % 18446744073709551616 = _
  omega
theorem cast_mod (n : Nat) : (n : Int) % 4294967296 = ((n % 4294967296 : Nat) : Int) := by omega
theorem wrap_nat (n : Nat) (h : n < 18446744073709551616) : IntKind.u64.wrap (n : Int) = (n : Int) := by
  show (n : Int) % 18446744073709551616 = _
  omega
theorem add_step {X cy am bm da db d q Pk : Nat} (hX : X + cy * Pk = am + bm) (hs : d + q * 4294967296 = cy + da + db) :
    (X + d * Pk) + q * (Pk * 4294967296) = (da * Pk + am) + (db * Pk + bm) := by
  have h := congrArg (· * Pk) hs
  simp only [Nat.add_mul] at h
  have e : q * (Pk * 4294967296) = q * 4294967296 * Pk := by rw [Nat.mul_comm Pk, Nat.mul_assoc]
  rw [e]
  omega
theorem sum_step (a b cy k : Nat) (hc : cy ≤ 1) : cy + dg a k + dg b k < 8589934592 ∧ (cy + dg a k + dg b k) / 4294967296 ≤ 1 := by
  have h1 := dg_lt a k
  have h2 := dg_lt b k
  omega
set_option maxRecDepth 8000 in
set_option maxHeartbeats 4000000 in
theorem addN_ (A A' : Option Addr) (la lb c c' a b : Nat) (w : World) (ha : a < P la) (hb : b < P lb) (hla : la ≤ 1099511627776) (hlb : lb ≤ 1099511627776) (hra : Row w A la a) (hrb : Row w A' lb b) :
    Calls Tryz.prog 56 #[.slice A la c, .slice A' lb c'] w fun e w' => ∃ v, e = .returned v ∧ Num w' v (a + b) ∧ Only [] w w' := by
  obtain ⟨i0, hi, hz0, hz1, hz2⟩ := info_parts info_word
  have HRA := Lib.hid hra
  have HRB := Lib.hid hrb
  have HA := Lib.hid ha
  have HB := Lib.hid hb
  clear hra hrb ha hb
  go_enter Tryz.func56, Tryz.ntmps56
  go_wp2
  go_loopw [5, 6, 7] (fun v cyv i wr => ∃ k X cy : Nat, k ≤ max la lb + 1 ∧ i = .int .i64 k ∧ cyv = .int .u64 (cy : Int) ∧ cy ≤ 1 ∧ OwnD wr w.heap.size v k X ∧ X < P k ∧ Hid (X + cy * P k = a % P k + b % P k) ∧ Below w.heap.size w wr) (fun _ _ i _ => max la lb + 2 - (intOf i).toNat)
  case atStart => exact ⟨0, 0, 0, Nat.zero_le _, rfl, rfl, Nat.zero_le _, World.ownsRow_nil _ _ _ _, P_pos 0, Lib.hid (by rw [P_zero, Nat.mod_one, Nat.mod_one]), below_me w⟩
  case round =>
    obtain ⟨k, X, cy, hk, rfl, rfl, hcy, hown, hX, hE, hbel⟩ := hrel
    have HOWN := Lib.hid hown
    have HX := Lib.hid hX
    have HBEL := Lib.hid hbel
    have hsz : w.heap.size ≤ wr.heap.size := hbel.size
    have hcyb : (0 : Int) ≤ (cy : Int) ∧ (cy : Int) ≤ 1 := by omega
    have hk0 : (k : Int) ≤ 1099511627778 := by omega
    have hss := sum_step a b cy k hcy
    clear hown hX hbel
    by_cases hka : k < la <;> by_cases hkb : k < lb
    · obtain ⟨bA, oA, rfl, hca⟩ : ∃ bk ok, A = some ⟨bk, ok, none⟩ ∧ wr.cell? ⟨bk, ok + k, none⟩ = some (.int .u64 ((dg a k : Nat) : Int)) := by
        rcases HRA.out.frame (Only.of_below HBEL.out []) with h | ⟨bk, ok, hA, h⟩
        · omega
        · exact ⟨bk, ok, hA, h k hka⟩
      obtain ⟨bB, oB, rfl, hcb⟩ : ∃ bk ok, A' = some ⟨bk, ok, none⟩ ∧ wr.cell? ⟨bk, ok + k, none⟩ = some (.int .u64 ((dg b k : Nat) : Int)) := by
        rcases HRB.out.frame (Only.of_below HBEL.out []) with h | ⟨bk, ok, hA, h⟩
        · omega
        · exact ⟨bk, ok, hA, h k hkb⟩
      obtain ⟨s1, hs1⟩ : ∃ s : Nat, s = cy + dg a k := ⟨_, rfl⟩
      obtain ⟨s2, hs2⟩ : ∃ s : Nat, s = s1 + dg b k := ⟨_, rfl⟩
      have hsb : s2 = cy + dg a k + dg b k := by omega
      have hs2b : s2 < 8589934592 ∧ s2 / 4294967296 ≤ 1 := by rw [hsb]; exact hss
      have W1 : IntKind.u64.wrap ((cy : Int) + ((dg a k : Nat) : Int)) = (s1 : Int) := by
        rw [hs1, ← Int.natCast_add]
        exact wrap_nat _ (by have := dg_lt a k; omega)
      have W2 : IntKind.u64.wrap ((s1 : Int) + ((dg b k : Nat) : Int)) = (s2 : Int) := by
        rw [hs2, ← Int.natCast_add]
        exact wrap_nat _ (by have := dg_lt a k; have := dg_lt b k; omega)
      have e0 : s2 = s2 := by omega
      have M1 : ((s2 : Nat) : Int) % 4294967296 = ((s2 % 4294967296 : Nat) : Int) := by rw [e0]; exact cast_mod s2
      have Q1 : IntKind.u64.wrap (((s2 : Nat) : Int) / 4294967296) = ((s2 / 4294967296 : Nat) : Int) := by
        rw [e0]
        exact wrap_div _ (by omega)
      have hE2 := add_step (d := s2 % 4294967296) (q := s2 / 4294967296) (da := dg a k) (db := dg b k) hE.out (by omega)
      rw [← P_succ, ← mod_step, ← mod_step] at hE2
      have HE2 := Lib.hid hE2
      have HD := Lib.hid (show s2 % 4294967296 < 4294967296 by omega)
      have HQ := Lib.hid hs2b.2
      have hd1 : decide (k < la) = true := decide_eq_true (by omega)
      have hd2 : decide (k < lb) = true := decide_eq_true (by omega)
      have hkM : k + 1 ≤ max la lb + 1 := by omega
      have HKM := Lib.hid hkM
      clear e0 hs1 hs2 hsb hs2b hss hE hE2 hkM hcyb hcy
      generalize s2 % 4294967296 = d at *
      generalize s2 / 4294967296 = qn at *
      generalize ((dg a k : Nat) : Int) = da at *
      generalize ((dg b k : Nat) : Int) = db at *
      go_wp2_with (at_builtin; refine wpList_append_own _ rfl _ _ 49 rfl w.heap.size 22 i0 (.int .u64 0) 1 8 Tryz.underlying49 hi hz0 hz1 hz2 rfl (by decide) _ _ _ rfl ((show wr.ownsRow w.heap.size 22 1 _ k (digs X k) from HOWN.out).alloc _) ⟨wr.heap.size, 0, none⟩ 1 1 [.int .u64 (d : Int)] rfl rfl (cell_one_new _ _ _) (fun u hu => by rw [List.mem_singleton.1 hu]; rfl) (by unfold maxLen; omega) (by omega) (by simp; omega) ?_; intro v' w1 hown' hgrow _; have HO' := Lib.hid hown'; have HG := Lib.hid hgrow; clear hown' hgrow)
      go_roundw
      case rel => exact ⟨k + 1, X + d * P k, qn, HKM.out, by go_num, rfl, HQ.out, OwnD.snoc HX.out HD.out HO'.out, snoc_lt HX.out HD.out, HE2, (HBEL.out.alloc hsz _).grown HG.out (by simp; omega) (fun j hj => own_from HOWN.out j hj)⟩
      case measure => simp [intOf]; omega
    · obtain ⟨bA, oA, rfl, hca⟩ : ∃ bk ok, A = some ⟨bk, ok, none⟩ ∧ wr.cell? ⟨bk, ok + k, none⟩ = some (.int .u64 ((dg a k : Nat) : Int)) := by
        rcases HRA.out.frame (Only.of_below HBEL.out []) with h | ⟨bk, ok, hA, h⟩
        · omega
        · exact ⟨bk, ok, hA, h k hka⟩
      have hzb : dg b k = 0 := dg_zero ((nd_le b k).1 (Nat.le_trans ((nd_le b lb).2 HB.out) (by omega)))
      obtain ⟨s1, hs1⟩ : ∃ s : Nat, s = cy + dg a k := ⟨_, rfl⟩
      obtain ⟨s2, hs2⟩ : ∃ s : Nat, s = s1 := ⟨_, rfl⟩
      have hsb : s2 = cy + dg a k + dg b k := by omega
      have hs2b : s2 < 8589934592 ∧ s2 / 4294967296 ≤ 1 := by rw [hsb]; exact hss
      have W1 : IntKind.u64.wrap ((cy : Int) + ((dg a k : Nat) : Int)) = (s1 : Int) := by
        rw [hs1, ← Int.natCast_add]
        exact wrap_nat _ (by have := dg_lt a k; omega)
      have e0 : s1 = s2 := by omega
      have M1 : ((s1 : Nat) : Int) % 4294967296 = ((s2 % 4294967296 : Nat) : Int) := by rw [e0]; exact cast_mod s2
      have Q1 : IntKind.u64.wrap (((s1 : Nat) : Int) / 4294967296) = ((s2 / 4294967296 : Nat) : Int) := by
        rw [e0]
        exact wrap_div _ (by omega)
      have hE2 := add_step (d := s2 % 4294967296) (q := s2 / 4294967296) (da := dg a k) (db := dg b k) hE.out (by omega)
      rw [← P_succ, ← mod_step, ← mod_step] at hE2
      have HE2 := Lib.hid hE2
      have HD := Lib.hid (show s2 % 4294967296 < 4294967296 by omega)
      have HQ := Lib.hid hs2b.2
      have hd1 : decide (k < la) = true := decide_eq_true (by omega)
      have hd2 : decide (k < lb) = false := decide_eq_false (by omega)
      have hkM : k + 1 ≤ max la lb + 1 := by omega
      have HKM := Lib.hid hkM
      clear e0 hs1 hs2 hsb hs2b hss hE hE2 hkM hcyb hcy hzb
      generalize s2 % 4294967296 = d at *
      generalize s2 / 4294967296 = qn at *
      generalize ((dg a k : Nat) : Int) = da at *
      go_wp2_with (at_builtin; refine wpList_append_own _ rfl _ _ 49 rfl w.heap.size 22 i0 (.int .u64 0) 1 8 Tryz.underlying49 hi hz0 hz1 hz2 rfl (by decide) _ _ _ rfl ((show wr.ownsRow w.heap.size 22 1 _ k (digs X k) from HOWN.out).alloc _) ⟨wr.heap.size, 0, none⟩ 1 1 [.int .u64 (d : Int)] rfl rfl (cell_one_new _ _ _) (fun u hu => by rw [List.mem_singleton.1 hu]; rfl) (by unfold maxLen; omega) (by omega) (by simp; omega) ?_; intro v' w1 hown' hgrow _; have HO' := Lib.hid hown'; have HG := Lib.hid hgrow; clear hown' hgrow)
      go_roundw
      case rel => exact ⟨k + 1, X + d * P k, qn, HKM.out, by go_num, rfl, HQ.out, OwnD.snoc HX.out HD.out HO'.out, snoc_lt HX.out HD.out, HE2, (HBEL.out.alloc hsz _).grown HG.out (by simp; omega) (fun j hj => own_from HOWN.out j hj)⟩
      case measure => simp [intOf]; omega
    · have hza : dg a k = 0 := dg_zero ((nd_le a k).1 (Nat.le_trans ((nd_le a la).2 HA.out) (by omega)))
      obtain ⟨bB, oB, rfl, hcb⟩ : ∃ bk ok, A' = some ⟨bk, ok, none⟩ ∧ wr.cell? ⟨bk, ok + k, none⟩ = some (.int .u64 ((dg b k : Nat) : Int)) := by
        rcases HRB.out.frame (Only.of_below HBEL.out []) with h | ⟨bk, ok, hA, h⟩
        · omega
        · exact ⟨bk, ok, hA, h k hkb⟩
      obtain ⟨s1, hs1⟩ : ∃ s : Nat, s = cy := ⟨_, rfl⟩
      obtain ⟨s2, hs2⟩ : ∃ s : Nat, s = s1 + dg b k := ⟨_, rfl⟩
      have hsb : s2 = cy + dg a k + dg b k := by omega
      have hs2b : s2 < 8589934592 ∧ s2 / 4294967296 ≤ 1 := by rw [hsb]; exact hss
      have W2 : IntKind.u64.wrap ((cy : Int) + ((dg b k : Nat) : Int)) = (s2 : Int) := by
        rw [hs2, ← Int.natCast_add, hs1]
        exact wrap_nat _ (by have := dg_lt a k; have := dg_lt b k; omega)
      have e0 : s2 = s2 := by omega
      have M1 : ((s2 : Nat) : Int) % 4294967296 = ((s2 % 4294967296 : Nat) : Int) := by rw [e0]; exact cast_mod s2
      have Q1 : IntKind.u64.wrap (((s2 : Nat) : Int) / 4294967296) = ((s2 / 4294967296 : Nat) : Int) := by
        rw [e0]
        exact wrap_div _ (by omega)
      have hE2 := add_step (d := s2 % 4294967296) (q := s2 / 4294967296) (da := dg a k) (db := dg b k) hE.out (by omega)
      rw [← P_succ, ← mod_step, ← mod_step] at hE2
      have HE2 := Lib.hid hE2
      have HD := Lib.hid (show s2 % 4294967296 < 4294967296 by omega)
      have HQ := Lib.hid hs2b.2
      have hd1 : decide (k < la) = false := decide_eq_false (by omega)
      have hd2 : decide (k < lb) = true := decide_eq_true (by omega)
      have hkM : k + 1 ≤ max la lb + 1 := by omega
      have HKM := Lib.hid hkM
      clear e0 hs1 hs2 hsb hs2b hss hE hE2 hkM hcyb hcy hza
      generalize s2 % 4294967296 = d at *
      generalize s2 / 4294967296 = qn at *
      generalize ((dg b k : Nat) : Int) = db at *
      go_wp2_with (at_builtin; refine wpList_append_own _ rfl _ _ 49 rfl w.heap.size 22 i0 (.int .u64 0) 1 8 Tryz.underlying49 hi hz0 hz1 hz2 rfl (by decide) _ _ _ rfl ((show wr.ownsRow w.heap.size 22 1 _ k (digs X k) from HOWN.out).alloc _) ⟨wr.heap.size, 0, none⟩ 1 1 [.int .u64 (d : Int)] rfl rfl (cell_one_new _ _ _) (fun u hu => by rw [List.mem_singleton.1 hu]; rfl) (by unfold maxLen; omega) (by omega) (by simp; omega) ?_; intro v' w1 hown' hgrow _; have HO' := Lib.hid hown'; have HG := Lib.hid hgrow; clear hown' hgrow)
      go_roundw
      case rel => exact ⟨k + 1, X + d * P k, qn, HKM.out, by go_num, rfl, HQ.out, OwnD.snoc HX.out HD.out HO'.out, snoc_lt HX.out HD.out, HE2, (HBEL.out.alloc hsz _).grown HG.out (by simp; omega) (fun j hj => own_from HOWN.out j hj)⟩
      case measure => simp [intOf]; omega
    · by_cases hc0 : cy = 0
      · subst hc0
        have hsum : X = a + b := by
          have h1 := hE.out
          have e1 : a % P k = a := mod_all ((nd_le a k).1 (Nat.le_trans ((nd_le a la).2 HA.out) (by omega)))
          have e2 : b % P k = b := mod_all ((nd_le b k).1 (Nat.le_trans ((nd_le b lb).2 HB.out) (by omega)))
          rw [e1, e2] at h1
          omega
        obtain ⟨V, cV, rfl, hV1, hV2, hVR⟩ := OwnD.row HOWN.out
        have HV := Lib.hid (norm_ V k cV X wr HX.out hV1 hV2 (by omega) hVR)
        have hd1 : decide (k < la) = false := decide_eq_false (by omega)
        have hd2 : decide (k < lb) = false := decide_eq_false (by omega)
        have HS := Lib.hid hsum
        clear hsum hV1 hV2 hVR hss hka hkb hE HOWN
        go_wp2_with (go_at_call 62; refine HV.out.mono ?_; rintro e w' ⟨v, rfl, hn, rfl⟩)
        go_ret
        rw [← HS.out]
        exact ⟨_, rfl, hn, Only.of_below HBEL.out []⟩
      · have hc1 : cy = 1 := by omega
        have hcp : (0 : Int) < (cy : Int) := by omega
        have hcp' : decide (0 < cy) = true := decide_eq_true (by omega)
        have hkx : k + 1 ≤ max la lb + 1 := by
          rcases Nat.lt_or_ge (max la lb) k with h | h
          · have h1 := hE.out
            have ea : a < P (max la lb) := (nd_le a _).1 (Nat.le_trans ((nd_le a la).2 HA.out) (by omega))
            have eb : b < P (max la lb) := (nd_le b _).1 (Nat.le_trans ((nd_le b lb).2 HB.out) (by omega))
            have e1 : k = max la lb + 1 := by omega
            have e3 : P k = P (max la lb) * 4294967296 := by rw [e1, P_succ]
            rw [mod_all (by omega), mod_all (by omega), hc1, Nat.one_mul] at h1
            omega
          · omega
        have HKX := Lib.hid hkx
        clear hkx hc1 hc0
        have hza : dg a k = 0 := dg_zero ((nd_le a k).1 (Nat.le_trans ((nd_le a la).2 HA.out) (by omega)))
        have hzb : dg b k = 0 := dg_zero ((nd_le b k).1 (Nat.le_trans ((nd_le b lb).2 HB.out) (by omega)))
        obtain ⟨s1, hs1⟩ : ∃ s : Nat, s = cy := ⟨_, rfl⟩
        obtain ⟨s2, hs2⟩ : ∃ s : Nat, s = s1 := ⟨_, rfl⟩
        have hsb : s2 = cy + dg a k + dg b k := by omega
        have hs2b : s2 < 8589934592 ∧ s2 / 4294967296 ≤ 1 := by rw [hsb]; exact hss
        have e0 : cy = s2 := by omega
        have M1 : ((cy : Nat) : Int) % 4294967296 = ((s2 % 4294967296 : Nat) : Int) := by rw [e0]; exact cast_mod s2
        have Q1 : IntKind.u64.wrap (((cy : Nat) : Int) / 4294967296) = ((s2 / 4294967296 : Nat) : Int) := by
          rw [e0]
          exact wrap_div _ (by omega)
        have hE2 := add_step (d := s2 % 4294967296) (q := s2 / 4294967296) (da := dg a k) (db := dg b k) hE.out (by omega)
        rw [← P_succ, ← mod_step, ← mod_step] at hE2
        have HE2 := Lib.hid hE2
        have HD := Lib.hid (show s2 % 4294967296 < 4294967296 by omega)
        have HQ := Lib.hid hs2b.2
        have hd1 : decide (k < la) = false := decide_eq_false (by omega)
        have hd2 : decide (k < lb) = false := decide_eq_false (by omega)
        have hkM : k + 1 ≤ max la lb + 1 := by exact HKX.out
        have HKM := Lib.hid hkM
        clear e0 hs1 hs2 hsb hs2b hss hE hE2 hkM hcyb hza hzb
        generalize s2 % 4294967296 = d at *
        generalize s2 / 4294967296 = qn at *
        go_wp2_with (at_builtin; refine wpList_append_own _ rfl _ _ 49 rfl w.heap.size 22 i0 (.int .u64 0) 1 8 Tryz.underlying49 hi hz0 hz1 hz2 rfl (by decide) _ _ _ rfl ((show wr.ownsRow w.heap.size 22 1 _ k (digs X k) from HOWN.out).alloc _) ⟨wr.heap.size, 0, none⟩ 1 1 [.int .u64 (d : Int)] rfl rfl (cell_one_new _ _ _) (fun u hu => by rw [List.mem_singleton.1 hu]; rfl) (by unfold maxLen; omega) (by omega) (by simp; omega) ?_; intro v' w1 hown' hgrow _; have HO' := Lib.hid hown'; have HG := Lib.hid hgrow; clear hown' hgrow)
        go_roundw
        case rel => exact ⟨k + 1, X + d * P k, qn, HKM.out, by go_num, rfl, HQ.out, OwnD.snoc HX.out HD.out HO'.out, snoc_lt HX.out HD.out, HE2, (HBEL.out.alloc hsz _).grown HG.out (by simp; omega) (fun j hj => own_from HOWN.out j hj)⟩
        case measure => simp [intOf]; omega
end Go.Proofs.YtpamkblhdgjlcaaGreatDoor
