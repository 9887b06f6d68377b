/- Digits to the base 2^32, by numbers; a row of memory that holds a number's digits. No program in sight. Walks of the reference's naturals: Norm, Word, CmpN. -/
import Derived.Test.YtpamkblhdgjlcaaGreatDoorBase
import Derived.WalkKit
import Derived.Laws.AppendOwn
import Derived.Below
import Derived.Test.YtpamkblhdgjlcaaGreatDoorProg
import Derived.WalkSpells
import Derived.WalkLawsBesides
import Derived.Handy
import Derived.Deep.QuietTactic
import Derived.BigQuiet
set_option linter.unusedSimpArgs false
set_option linter.unusedVariables false
namespace Go.Proofs.YtpamkblhdgjlcaaGreatDoor
open Go.RowKit

/-- the weight of digit i -/
def P (i : Nat) : Nat := 4294967296 ^ i
theorem P_zero : P 0 = 1 := rfl
theorem P_succ (i : Nat) : P (i + 1) = P i * 4294967296 := Nat.pow_succ ..
theorem P_pos (i : Nat) : 0 < P i := Nat.pow_pos (by decide)
theorem P_add (i j : Nat) : P (i + j) = P i * P j := Nat.pow_add ..
theorem P_two (i : Nat) : P i = 2 ^ (32 * i) := by
  unfold P
  rw [Nat.pow_mul]
/-- digit i -/
def dg (x i : Nat) : Nat := x / P i % 4294967296
theorem dg_lt (x i : Nat) : dg x i < 4294967296 := Nat.mod_lt _ (by decide)
/-- how many digits -/
def nd (x : Nat) : Nat := if x = 0 then 0 else x.log2 / 32 + 1
theorem nd_zero : nd 0 = 0 := rfl
theorem nd_le (x k : Nat) : nd x ≤ k ↔ x < P k := by
  unfold nd
  by_cases h : x = 0
  · rw [if_pos h, h]
    exact ⟨fun _ => P_pos k, fun _ => Nat.zero_le _⟩
  · rw [if_neg h, P_two, ← Nat.log2_lt h]
    omega
theorem lt_P (x : Nat) : x < P (nd x) := (nd_le x _).1 (Nat.le_refl _)
theorem nd_pos {x : Nat} (h : x ≠ 0) : 0 < nd x := by unfold nd; rw [if_neg h]; omega
theorem nd_ge {x k : Nat} (h : P k ≤ x) : k < nd x := by
  rcases Nat.lt_or_ge k (nd x) with h' | h'
  · exact h'
  · have := (nd_le x k).1 h'
    omega
theorem dg_zero {x i : Nat} (h : x < P i) : dg x i = 0 := by
  unfold dg
  rw [Nat.div_eq_of_lt h]
theorem div_step (x i : Nat) : x / P i = x / P (i + 1) * 4294967296 + dg x i := by
  unfold dg
  rw [P_succ, ← Nat.div_div_eq_div_mul]
  omega
theorem mod_step (x i : Nat) : x % P (i + 1) = dg x i * P i + x % P i := by
  unfold dg
  rw [P_succ, Nat.mod_mul, Nat.add_comm, Nat.mul_comm]
theorem mod_all {x k : Nat} (h : x < P k) : x % P k = x := Nat.mod_eq_of_lt h
/-- one digit less: the top digit is 0 -/
theorem lt_of_dg_zero {x k : Nat} (h : x < P (k + 1)) (h0 : dg x k = 0) : x < P k := by
  have := mod_step x k
  rw [mod_all h, h0, Nat.zero_mul, Nat.zero_add] at this
  rw [this]
  exact Nat.mod_lt _ (P_pos k)
theorem nd_of_dg {x k : Nat} (h : x < P (k + 1)) (h0 : dg x k ≠ 0) : nd x = k + 1 := by
  have h1 := (nd_le x (k + 1)).2 h
  have h2 : k < nd x := nd_ge (by
    rcases Nat.lt_or_ge x (P k) with h' | h'
    · exact absurd (dg_zero h') h0
    · exact h')
  omega
theorem dg_ext {x y L : Nat} (hx : x < P L) (hy : y < P L) (h : ∀ i, i < L → dg x i = dg y i) : x = y := by
  have key : ∀ k, k ≤ L → x % P k = y % P k := by
    intro k
    induction k with
    | zero => intro _; rw [P_zero, Nat.mod_one, Nat.mod_one]
    | succ k ih =>
      intro hk
      rw [mod_step, mod_step, ih (by omega), h k (by omega)]
  have := key L (Nat.le_refl _)
  rwa [mod_all hx, mod_all hy] at this
/-- a number below a power, and digits above it -/
theorem dg_low {a b k i : Nat} (ha : a < P k) (hi : i < k) : dg (a + b * P k) i = dg a i := by
  unfold dg
  have : P k = P i * (4294967296 * P (k - i - 1)) := by
    rw [show 4294967296 * P (k - i - 1) = P (k - i - 1 + 1) by rw [P_succ, Nat.mul_comm], ← P_add]
    congr 1
    omega
  rw [this, ← Nat.mul_assoc, Nat.mul_comm b (P i), Nat.mul_assoc, Nat.add_mul_div_left _ _ (P_pos i), ← Nat.mul_assoc, Nat.mul_comm b 4294967296, Nat.mul_assoc, Nat.add_mul_mod_self_left]
theorem dg_high {a b k i : Nat} (ha : a < P k) : dg (a + b * P k) (k + i) = dg b i := by
  unfold dg
  rw [P_add, ← Nat.div_div_eq_div_mul, Nat.add_mul_div_right _ _ (P_pos k), Nat.div_eq_of_lt ha, Nat.zero_add]
theorem dg_one (d : Nat) (h : d < 4294967296) : dg d 0 = d := by
  unfold dg
  rw [P_zero, Nat.div_one, Nat.mod_eq_of_lt h]

/-- L cells at A hold the digits of x -/
def Row (w : World) (A : Option Addr) (L x : Nat) : Prop := L = 0 ∨ ∃ b o, A = some ⟨b, o, none⟩ ∧ ∀ i, i < L → w.cell? ⟨b, o + i, none⟩ = some (.int .u64 ((dg x i : Nat) : Int))
theorem Row.frame {w w' : World} {A : Option Addr} {L x : Nat} (h : Row w A L x) (ho : Only [] w w') : Row w' A L x := by
  rcases h with h | ⟨b, o, hA, h⟩
  · exact .inl h
  · exact .inr ⟨b, o, hA, fun i hi => by
      have hc := h i hi
      have hlt := World.block_lt_of_cell? w _ hc
      have := ho.block b hlt (by simp)
      simp only [World.cell?] at hc ⊢
      rw [this]; exact hc⟩
theorem Row.less {w : World} {A : Option Addr} {L L' x : Nat} (h : Row w A L x) (hl : L' ≤ L) : Row w A L' x := by
  rcases h with h | ⟨b, o, hA, h⟩
  · exact .inl (by omega)
  · exact .inr ⟨b, o, hA, fun i hi => h i (by omega)⟩
/-- a number that a slice holds, its top digit not 0 -/
def Num (w : World) (v : Value) (x : Nat) : Prop := ∃ A c, v = .slice A (nd x) c ∧ nd x ≤ c ∧ (A = none → c = 0) ∧ Row w A (nd x) x
theorem Num.frame {w w' : World} {v : Value} {x : Nat} (h : Num w v x) (ho : Only [] w w') : Num w' v x := by
  obtain ⟨A, c, hv, hc, hn, hr⟩ := h
  exact ⟨A, c, hv, hc, hn, hr.frame ho⟩
theorem Num.zero (w : World) : Num w (.slice none 0 0) 0 := ⟨none, 0, rfl, Nat.le_refl _, fun _ => rfl, .inl rfl⟩
theorem below_me (w : World) : Below w.heap.size w w := ⟨rfl, rfl, rfl, Nat.le_refl _, fun _ _ => rfl⟩
theorem own_from {w : World} {base : Nat} {e : TypeId} {size n : Nat} {v : Value} {xs : List Value} (h : w.ownsRow base e size v n xs) (k : Nat) (hk : v.ownBlock = some k) : base ≤ k := by
  rcases h.2 with ⟨rfl, _⟩ | ⟨g, cap, cur, rfl, hg, _⟩
  · simp [Value.ownBlock] at hk
  · have : g = k := by simpa [Value.ownBlock] using hk
    omega
end Go.Proofs.YtpamkblhdgjlcaaGreatDoor
namespace Go.Proofs.YtpamkblhdgjlcaaGreatDoor
open Go.RowKit

set_option maxHeartbeats 1000000 in
theorem norm_some (b o L c x : Nat) (w : World) (hx : x < P L) (hc : L ≤ c) (hL : L ≤ 2199023255552) (hr : Row w (some ⟨b, o, none⟩) L x) :
    Calls Tryz.prog 62 #[.slice (some ⟨b, o, none⟩) L c] w fun e w' => e = .returned (.slice (some ⟨b, o, none⟩) (nd x) c) ∧ w = w' := by
  have HR := Lib.hid hr
  clear hr
  go_enter Tryz.func62, Tryz.ntmps62
  go_wp2
  go_loop [3] (fun n => ∃ k : Nat, k ≤ L ∧ n = .int .i64 k ∧ x < P k) (fun n => (intOf n).toNat)
  case atStart => exact ⟨L, Nat.le_refl _, rfl, hx⟩
  case round =>
    obtain ⟨k, hk, rfl, hxk⟩ := hrel
    cases k with
    | zero =>
      have h0 : nd x = 0 := by have := (nd_le x 0).2 hxk; omega
      clear hx hxk
      have H0 := Lib.hid h0
      clear h0
      go_wp2
      go_ret
      rw [H0.out]
      exact ⟨rfl, rfl⟩
    | succ j =>
      have hcell : w.cell? ⟨b, o + j, none⟩ = some (.int .u64 ((dg x j : Nat) : Int)) := by
        rcases HR.out with h | ⟨b', o', hA, h⟩
        · omega
        · cases hA; exact h j (by omega)
      by_cases hz : dg x j = 0
      · have hz1 : ((dg x j : Nat) : Int) = 0 := by rw [hz]; rfl
        rw [hz1] at hcell
        have hlt := lt_of_dg_zero hxk hz
        clear hz hz1
        have HLT := Lib.hid hlt
        clear hlt hxk hx
        go_wp2
        go_round
        case rel => exact ⟨j, by omega, by go_num, HLT.out⟩
        case measure => simp [intOf]
      · have hz1 : (((dg x j : Nat) : Int) == 0) = false := by
          simp only [beq_eq_false_iff_ne, ne_eq]; omega
        have hn := nd_of_dg hxk hz
        have HN := Lib.hid hn
        clear hn hz hxk hx
        go_wp2
        go_ret
        rw [HN.out]
        exact ⟨rfl, rfl⟩
/-- the number that a row holds, without noughts at its end: the slice itself, shorter -/
theorem norm_x (A : Option Addr) (L c x : Nat) (w : World) (hx : x < P L) (hc : L ≤ c) (hA : A = none → c = 0) (hL : L ≤ 2199023255552) (hr : Row w A L x) :
    Calls Tryz.prog 62 #[.slice A L c] w fun e w' => e = .returned (.slice A (nd x) c) ∧ w = w' := by
  cases A with
  | none =>
    obtain rfl := hA rfl
    obtain rfl : L = 0 := by omega
    have h0 : x = 0 := by have := hx; rw [P_zero] at this; omega
    subst h0
    clear hx hc hA hL hr
    go_enter Tryz.func62, Tryz.ntmps62
    go_wp2
    refine wp_loop_rounds 1 ?_
    rw [rounds_succ]
    go_wp2
    go_ret
    exact ⟨rfl, rfl⟩
  | some a =>
    rcases hr with h | ⟨b, o, hA', h⟩
    · subst h
      have h0 : x = 0 := by have := hx; rw [P_zero] at this; omega
      subst h0
      obtain ⟨b, o, v⟩ := a
      go_enter Tryz.func62, Tryz.ntmps62
      go_wp2
      refine wp_loop_rounds 1 ?_
      rw [rounds_succ]
      go_wp2
      go_ret
      exact ⟨rfl, rfl⟩
    · cases hA'
      have hr : Row w (some ⟨b, o, none⟩) L x := .inr ⟨b, o, rfl, h⟩
      exact norm_some b o L c x w hx hc hL hr
theorem Num.cut {w : World} {A : Option Addr} {L c x : Nat} (hx : x < P L) (hc : L ≤ c) (hA : A = none → c = 0) (hr : Row w A L x) : Num w (.slice A (nd x) c) x :=
  ⟨A, c, rfl, Nat.le_trans ((nd_le x L).2 hx) hc, hA, hr.less ((nd_le x L).2 hx)⟩
/-- the number that a row holds, without noughts at its end -/
theorem norm_ (A : Option Addr) (L c x : Nat) (w : World) (hx : x < P L) (hc : L ≤ c) (hA : A = none → c = 0) (hL : L ≤ 2199023255552) (hr : Row w A L x) :
    Calls Tryz.prog 62 #[.slice A L c] w fun e w' => ∃ v, e = .returned v ∧ Num w v x ∧ w = w' := by
  refine (norm_x A L c x w hx hc hA hL hr).mono ?_
  rintro e w' ⟨rfl, rfl⟩
  exact ⟨_, rfl, Num.cut hx hc hA hr, rfl⟩
set_option maxHeartbeats 1000000 in
theorem word_ (n : Nat) (hn : n < 18446744073709551616) (w : World) :
    Calls Tryz.prog 38 #[.int .u64 n] w fun e w' => ∃ v, e = .returned v ∧ Num w' v n ∧ Only [] w w' := by
  have h1 : IntKind.u64.wrap ((n : Int) / 4294967296) = ((dg n 1 : Nat) : Int) := by
    have e1 : dg n 1 = n / 4294967296 := by
      unfold dg
      have : P 1 = 4294967296 := rfl
      rw [this]
      omega
    rw [e1]
    show ((n : Int) / 4294967296) % 18446744073709551616 = _
    omega
  have h2 : ((n : Int) % 4294967296) = ((dg n 0 : Nat) : Int) := by
    unfold dg
    rw [P_zero, Nat.div_one]
    omega
  have hw : ∀ w', w'.cell? ⟨w.heap.size, 0, none⟩ = some (.int .u64 ((dg n 0 : Nat) : Int)) → w'.cell? ⟨w.heap.size, 1, none⟩ = some (.int .u64 ((dg n 1 : Nat) : Int)) → Row w' (some ⟨w.heap.size, 0, none⟩) 2 n := by
    intro w' h0 h1
    refine .inr ⟨_, _, rfl, fun i hi => ?_⟩
    have : i = 0 ∨ i = 1 := by omega
    rcases this with rfl | rfl
    · exact h0
    · exact h1
  have HW := Lib.hid hw
  have hP : n < P 2 := hn
  have HP := Lib.hid hP
  clear hw hP
  generalize dg n 1 = d1 at h1 HW
  generalize dg n 0 = d0 at h2 HW
  go_enter Tryz.func38, Tryz.ntmps38
  go_wp2_with fail
  refine (norm_ _ 2 2 n _ HP.out (by decide) (fun h => by cases h) (by decide) (HW.out _ (by simp [go_sem]) (by simp [go_sem]))).mono ?_
  rintro e w' ⟨v, rfl, hn, rfl⟩
  go_wp2_with fail
  go_ret
  exact ⟨_, rfl, hn, (Only.refl [] w).alloc _⟩
set_option maxHeartbeats 1000000 in
theorem cmp_len (A A' : Option Addr) (l l' c c' : Nat) (w : World) (h : l ≠ l') :
    Calls Tryz.prog 57 #[.slice A l c, .slice A' l' c'] w fun e w' => e = .returned (.int .i64 (if l < l' then -1 else 1)) ∧ w = w' := by
  have hne : ((l : Int) != (l' : Int)) = true := by simp only [bne_iff_ne, ne_eq]; omega
  by_cases hlt : l < l'
  · have hd : decide ((l : Int) < (l' : Int)) = true := decide_eq_true (by omega)
    have hd' : decide (l < l') = true := decide_eq_true hlt
    rw [if_pos hlt]
    clear h hlt
    go_enter Tryz.func57, Tryz.ntmps57
    go_wp2
    go_ret
    exact ⟨rfl, rfl⟩
  · have hd : decide ((l : Int) < (l' : Int)) = false := decide_eq_false (by omega)
    have hd' : decide (l < l') = false := decide_eq_false hlt
    rw [if_neg hlt]
    clear h hlt
    go_enter Tryz.func57, Tryz.ntmps57
    go_wp2
    go_ret
    exact ⟨rfl, rfl⟩
/-- comparing two numbers by their digits -/
def cmpNat (x y : Nat) : Int := if x < y then -1 else if y < x then 1 else 0
set_option maxHeartbeats 2000000 in
theorem cmp_rows (A A' : Option Addr) (L c c' x y : Nat) (w : World) (hx : x < P L) (hy : y < P L) (hL : L ≤ 2199023255552) (hrx : Row w A L x) (hry : Row w A' L y) :
    Calls Tryz.prog 57 #[.slice A L c, .slice A' L c'] w fun e w' => e = .returned (.int .i64 (cmpNat x y)) ∧ ∃ n, w' = w.drewN n := by
  have HX := Lib.hid hrx
  have HY := Lib.hid hry
  have HXP := Lib.hid hx
  have HYP := Lib.hid hy
  clear hrx hry hx hy
  go_enter Tryz.func57, Tryz.ntmps57
  go_wp2
  go_loopw [5] (fun i wr => ∃ k : Nat, k ≤ L ∧ i = .int .i64 ((k : Int) - 1) ∧ x / P k = y / P k ∧ ∃ n, wr = w.drewN n) (fun i _ => (intOf i + 1).toNat)
  case atStart => exact ⟨L, Nat.le_refl _, rfl, by rw [Nat.div_eq_of_lt HXP.out, Nat.div_eq_of_lt HYP.out], 0, rfl⟩
  case round =>
    obtain ⟨k, hk, rfl, he, n, rfl⟩ := hrel
    cases k with
    | zero =>
      have hxy : x = y := by simpa [P_zero] using he
      have hv : cmpNat x y = 0 := by unfold cmpNat; rw [hxy, if_neg (Nat.lt_irrefl _), if_neg (Nat.lt_irrefl _)]
      have HV := Lib.hid hv
      clear hv hxy he
      go_wp2
      go_ret
      rw [HV.out]
      exact ⟨rfl, _, rfl⟩
    | succ j =>
      have ej : ((j + 1 : Nat) : Int) - 1 = (j : Int) := by omega
      rw [ej]
      obtain ⟨b, o, rfl, hcx⟩ : ∃ b o, A = some ⟨b, o, none⟩ ∧ w.cell? ⟨b, o + j, none⟩ = some (.int .u64 ((dg x j : Nat) : Int)) := by
        rcases HX.out with h | ⟨b, o, hA, h⟩
        · omega
        · exact ⟨b, o, hA, h j (by omega)⟩
      obtain ⟨b', o', rfl, hcy⟩ : ∃ b o, A' = some ⟨b, o, none⟩ ∧ w.cell? ⟨b, o + j, none⟩ = some (.int .u64 ((dg y j : Nat) : Int)) := by
        rcases HY.out with h | ⟨b, o, hA, h⟩
        · omega
        · exact ⟨b, o, hA, h j (by omega)⟩
      have hxj := div_step x j
      have hyj := div_step y j
      have hlt : (j : Int) < (L : Int) := by omega
      have h0 : (0 : Int) ≤ (j : Int) := by omega
      clear ej
      rcases Nat.lt_trichotomy (dg x j) (dg y j) with hd | hd | hd
      · have hv : cmpNat x y = -1 := by
          unfold cmpNat
          rw [if_pos]
          rcases Nat.lt_or_ge x y with h | h
          · exact h
          · have := Nat.div_le_div_right (c := P j) h
            omega
        have d1 : decide (((dg x j : Nat) : Int) < ((dg y j : Nat) : Int)) = true := decide_eq_true (by omega)
        have HV := Lib.hid hv
        clear hv hxj hyj hd he
        generalize ((dg x j : Nat) : Int) = dx at hcx d1
        generalize ((dg y j : Nat) : Int) = dy at hcy d1
        go_wp2_with fail
        go_quiet (fail)
        go_wp2_with fail
        go_ret
        rw [HV.out]
        refine ⟨rfl, ?_⟩
        simp only [World.drewN_drewN]
        exact ⟨_, rfl⟩
      · have HE := Lib.hid (show x / P j = y / P j by rw [hxj, hyj, he, hd])
        have d1 : decide (((dg x j : Nat) : Int) < ((dg y j : Nat) : Int)) = false := decide_eq_false (by omega)
        have d2 : decide (((dg y j : Nat) : Int) < ((dg x j : Nat) : Int)) = false := decide_eq_false (by omega)
        clear hxj hyj hd he
        generalize ((dg x j : Nat) : Int) = dx at hcx d1 d2
        generalize ((dg y j : Nat) : Int) = dy at hcy d1 d2
        go_wp2_with fail
        go_quiet (fail)
        go_wp2_with fail
        go_quiet (fail)
        go_wp2_with fail
        go_roundw
        case rel => exact ⟨j, by omega, by go_num, HE.out, by first | exact ⟨_, rfl⟩ | (simp only [World.drewN_drewN]; exact ⟨_, rfl⟩)⟩
        case measure => simp [intOf]
      · have hv : cmpNat x y = 1 := by
          have hyx : y < x := by
            rcases Nat.lt_or_ge y x with h | h
            · exact h
            · have := Nat.div_le_div_right (c := P j) h
              omega
          unfold cmpNat
          rw [if_neg (by omega), if_pos hyx]
        have d1 : decide (((dg x j : Nat) : Int) < ((dg y j : Nat) : Int)) = false := decide_eq_false (by omega)
        have d2 : decide (((dg y j : Nat) : Int) < ((dg x j : Nat) : Int)) = true := decide_eq_true (by omega)
        have HV := Lib.hid hv
        clear hv hxj hyj hd he
        generalize ((dg x j : Nat) : Int) = dx at hcx d1 d2
        generalize ((dg y j : Nat) : Int) = dy at hcy d1 d2
        go_wp2_with fail
        go_quiet (fail)
        go_wp2_with fail
        go_quiet (fail)
        go_wp2_with fail
        go_ret
        rw [HV.out]
        refine ⟨rfl, ?_⟩
        simp only [World.drewN_drewN]
        exact ⟨_, rfl⟩
/-- comparing two numbers -/
theorem cmp_ (v u : Value) (x y : Nat) (w : World) (hv : Num w v x) (hu : Num w u y) (hx : nd x ≤ 2199023255552) :
    Calls Tryz.prog 57 #[v, u] w fun e w' => e = .returned (.int .i64 (cmpNat x y)) ∧ Only [] w w' := by
  obtain ⟨A, c, rfl, hc, hA, hr⟩ := hv
  obtain ⟨A', c', rfl, hc', hA', hr'⟩ := hu
  by_cases h : nd x = nd y
  · rw [← h] at hr' ⊢
    refine (cmp_rows A A' (nd x) c c' x y w (lt_P x) (by rw [h]; exact lt_P y) hx hr hr').mono ?_
    rintro e w' ⟨rfl, n, rfl⟩
    exact ⟨rfl, (Only.refl [] w).drewN n⟩
  · refine (cmp_len A A' (nd x) (nd y) c c' w h).mono ?_
    rintro e w' ⟨rfl, rfl⟩
    refine ⟨?_, Only.refl [] w⟩
    unfold cmpNat
    by_cases hl : nd x < nd y
    · have h1 : x < y := by
        rcases Nat.lt_or_ge x y with h' | h'
        · exact h'
        · have := (nd_le y (nd x)).2 (Nat.lt_of_le_of_lt h' (lt_P x))
          omega
      rw [if_pos hl, if_pos h1]
    · have h1 : y < x := by
        rcases Nat.lt_or_ge y x with h' | h'
        · exact h'
        · have := (nd_le x (nd y)).2 (Nat.lt_of_le_of_lt h' (lt_P y))
          omega
      rw [if_neg hl, if_neg (by omega), if_pos h1]
end Go.Proofs.YtpamkblhdgjlcaaGreatDoor
