/- The walk of the reference's DivN: the long way. -/
import Derived.Test.YtpamkblhdgjlcaaGreatDoorProg
import Derived.Test.YtpamkblhdgjlcaaGreatDoorBase
import Derived.Test.YtpamkblhdgjlcaaGreatDoorR10
import Derived.WalkKit
import Derived.WalkSpells
import Derived.WalkLawsBesides
import Derived.Handy
import Derived.Deep.QuietTactic
import Derived.Deep.OwnRows
import Derived.BigQuiet
import Derived.OwnWalk
import Derived.Laws.AppendOwn
set_option linter.unusedSimpArgs false
set_option linter.unusedVariables false
namespace Go.Proofs.YtpamkblhdgjlcaaGreatDoor
open Go.RowKit

theorem setd_shift (q j t : Nat) : setd (q * P (j + 1)) j t = (q * 4294967296 + t) * P j := by
  have := setd_add (q * P (j + 1)) j t
  rw [dg_above, Nat.zero_mul, Nat.add_zero] at this
  rw [this, P_succ, Nat.add_mul, Nat.mul_comm (P j), Nat.mul_assoc]
theorem OwnD.top {w : World} {base : Nat} {v : Value} {k x : Nat} (hx : x < P k) (h : w.ownsRow base 22 1 v (k + 1) (digs x k ++ [.int .u64 0])) : OwnD w base v (k + 1) x := by
  have := OwnD.snoc (d := 0) hx (by decide) h
  rwa [Nat.zero_mul, Nat.add_zero] at this
set_option maxRecDepth 8000 in
set_option maxHeartbeats 8000000 in
theorem div_long (v u : Value) (a b : Nat) (w : World) (hv : Num w v a) (hu : Num w u b) (hla : nd a ≤ 137438953472) (h : b ≤ a) (hb0 : b ≠ 0) (hb : nd b ≠ 1) :
    Calls Tryz.prog 55 #[v, u] w fun e w' => ∃ x y, e = .returned (.tuple #[x, y]) ∧ Num w' x (a / b) ∧ Num w' y (a % b) ∧ Only [] w w' := by
  obtain ⟨i0, hi, hz0, hz1, hz2⟩ := info_parts info_word
  have hnb := nd_pos hb0
  have hnab := nd_mono h
  obtain ⟨hs1, hs2⟩ := bits_nd hb0
  obtain ⟨n1, hn1⟩ : ∃ n1, nd b = n1 + 1 := ⟨nd b - 1, by omega⟩
  obtain ⟨n, hn⟩ : ∃ n, n = n1 + 1 := ⟨_, rfl⟩
  have hndb : nd b = n := by omega
  obtain ⟨s, hs⟩ : ∃ s, s = 32 * n - bits b := ⟨_, rfl⟩
  have hsb : s < 32 := by omega
  have S0 : 32 * (n : Int) - ((bits b : Nat) : Int) = (s : Int) := by omega
  obtain ⟨B, hB⟩ : ∃ B, B = b * 2 ^ s := ⟨_, rfl⟩
  obtain ⟨R, hR⟩ : ∃ R, R = a * 2 ^ s := ⟨_, rfl⟩
  have hndB : nd B = n := by rw [hB, nd_shl hb0 (by omega)]; exact hndb
  have hBR : B ≤ R := by rw [hB, hR]; exact Nat.mul_le_mul_right _ h
  have hndR := nd_mono hBR
  have hndR2 : nd R ≤ nd a + 1 := by
    rw [nd_le, P_succ, hR]
    have h1 : 2 ^ s ≤ 4294967296 := by
      have := Nat.pow_le_pow_right (n := 2) (by decide) (show s ≤ 32 by omega)
      exact this
    exact Nat.lt_of_lt_of_le (Nat.mul_lt_mul_of_pos_right (lt_P a) (Nat.pow_pos (by decide))) (Nat.mul_le_mul_left _ h1)
  obtain ⟨m, hm⟩ : ∃ m, nd R + 1 = m + n := ⟨nd R + 1 - n, by omega⟩
  have hmp : 1 ≤ m := by omega
  have hmb : m + n ≤ 274877906944 := by omega
  have hRB : R < B * P m := by
    have h1 : P n1 ≤ B := P_le_of_nd (by omega)
    have h2 : R < P (n1 + m) := (nd_le R _).1 (by omega)
    rw [P_add] at h2
    exact Nat.lt_of_lt_of_le h2 (Nat.mul_le_mul_right _ h1)
  have hmk := make_row m (by omega)
  have hcm : ¬ cmpNat a b < 0 := by
    have := cmp_neg a b
    rw [decide_eq_false (Nat.not_lt.2 h)] at this
    exact of_decide_eq_false this
  have HV := Lib.hid hv
  have HU := Lib.hid hu
  obtain ⟨A', c', rfl, hc', hA', hr'⟩ := hu
  have hn1' : ¬ n = 1 := by omega
  have Hn := Lib.hid hn
  have HBE := Lib.hid hB
  have HRE := Lib.hid hR
  have HnB := Lib.hid hndB
  have Hm := Lib.hid hm
  have HRB := Lib.hid hRB
  have Hla := Lib.hid hla
  have Hnd := Lib.hid hndb
  rw [hndb]
  have HU' := Lib.hid (show Num w (.slice A' n c') b by rw [← hndb]; exact HU.out)
  clear hv hr' hA' hc' h hb hb0 hnb hnab hs1 hs2 hn1 hs hB hR hndB hBR hndR hndR2 hm hRB hn hndb HU
  have hnf : ((n : Int) == 1) = false := by simp; omega
  go_enter Tryz.func55, Tryz.ntmps55
  go_wp2_with first
    | (go_at_call 57; refine (cmp_ _ _ a b _ HV.out HU'.out (by have := Hla.out; omega)).mono ?_; rintro e w1 ⟨rfl, ho⟩; have HO1 := Lib.hid ho; clear ho; generalize cmpNat a b = cv at *)
    | (go_at_call 83; refine (bitsN_ _ b _ (HU'.out.frame HO1.out) (by rw [Hnd.out]; omega)).mono ?_; rintro e w2 ⟨rfl, rfl⟩)
    | (have hq := HO2; clear hq; go_at_call 37; refine (shl_num _ a s _ (HV.out.frame (HO1.out.trans HO2.out)) (by have := Hla.out; omega) (by omega)).mono ?_; rintro e w3 ⟨x, rfl, h1, ho⟩; rw [← HRE.out] at h1; have HO3 := Lib.hid ho; have HOW := Lib.hid h1; clear h1 ho; have hsz3 := HO3.out.size)
    | (go_at_call 37; refine (shl_num _ b s _ (HU'.out.frame HO1.out) (by rw [Hnd.out]; omega) (by omega)).mono ?_; rintro e w2 ⟨x, rfl, h1, ho⟩; rw [← HBE.out, HnB.out] at h1; have HO2 := Lib.hid ho; have HB1 := Lib.hid h1; obtain ⟨gB, cB, rfl, _, hgB, hcBn, hcB⟩ := OwnD.cells h1 (by have := Hn.out; omega); have HRB2 := Lib.hid (Cells.row hcB); clear h1 ho hcB)
    | (at_builtin; refine wpList_append_own _ rfl _ _ 49 rfl w2.heap.size 22 i0 (.int .u64 0) 1 8 Tryz.underlying49 hi hz0 hz1 hz2 rfl (by decide) _ _ _ rfl ((show w3.ownsRow w2.heap.size 22 1 _ (nd R) (digs R (nd R)) from HOW.out).alloc _) ⟨w3.heap.size, 0, none⟩ 1 1 [.int .u64 0] rfl rfl (cell_one_new _ _ _) (fun u hu => by rw [List.mem_singleton.1 hu]; rfl) (by unfold maxLen; have := Hm.out; omega) (by have := Hm.out; omega) (by simp; omega) ?_; intro v' w4 hown' hgrow _; have hown2 := OwnD.top (lt_P R) hown'; rw [Hm.out] at hown2; have HO4 := Lib.hid hown2; have HG := Lib.hid hgrow; obtain ⟨g, cR, rfl, hgb, hgl, hcR, hcells⟩ := OwnD.cells hown2 (by omega); have HCE := Lib.hid hcells; clear hown' hown2 hgrow hcells)
  have hO24 : Only [] w2 w4 := Only.of_below (((Only.nil HO3.out).alloc hsz3 _).grown HG.out (by simp; omega) (fun j hj => own_from HOW.out j hj)) []
  have hgne : gB ≠ g := by omega
  have hsz4 := hO24.size
  have hgq : gB ≠ w4.heap.size := by omega
  have hggq : g ≠ w4.heap.size := by omega
  have hsz12 := (HO1.out.trans HO2.out).size
  have HO5 := Lib.hid (((HO1.out.trans HO2.out).trans hO24).alloc (.cells (madeCells #[.int .u64 0] m) 22))
  have HRB5 := Lib.hid ((HRB2.out.frame hO24).frame ((Only.refl [] w4).alloc (.cells (madeCells #[.int .u64 0] m) 22)))
  have HCE5 := Lib.hid (HCE.out.frame ((Only.refl [] w4).alloc (.cells (madeCells #[.int .u64 0] m) 22)))
  clear hO24 HO4 HG HOW HCE HRB2 HB1 hmk
  go_loopw [10] (fun jv wr => ∃ k Q Rk : Nat, k ≤ m ∧ jv = .int .i64 ((k : Int) - 1) ∧ Cells wr g (m + n) (dg Rk) ∧ RowD wr w4.heap.size m (Q * P k) ∧ Hid (R = Q * P k * B + Rk) ∧ Hid (Rk < B * P k) ∧ Only [g, w4.heap.size] (w4.alloc (.cells (madeCells #[.int .u64 0] m) 22)) wr) (fun jv _ => (intOf jv + 1).toNat)
  case atStart => exact ⟨m, 0, R, Nat.le_refl _, rfl, HCE5.out, by rw [Nat.zero_mul]; exact RowD.made w4 m, Lib.hid (by rw [Nat.zero_mul, Nat.zero_mul, Nat.zero_add]), HRB, Only.refl _ _⟩
  case round =>
    obtain ⟨k, Q, Rk, hk, rfl, hcs, hq, hE, hRk, ho⟩ := hrel
    have hrow := HRB5.out.off ho (fun a ha => by
      cases ha
      simp only [List.mem_cons, List.not_mem_nil, or_false, not_or]
      exact ⟨hgne, hgq⟩)
    have HROW := Lib.hid hrow
    have HCS := Lib.hid hcs
    have HQ := Lib.hid hq
    have HO := Lib.hid ho
    cases k with
    | zero =>
      have hE' := hE.out
      have hRk' := hRk.out
      rw [P_zero, Nat.mul_one] at hE' hRk'
      have hd := div_end (a := a) (b := b) (s := s) (Q := Q) (R0 := Rk) (by rw [← HRE.out, ← HBE.out]; exact hE') (by rw [← HBE.out]; exact hRk')
      rw [P_zero, Nat.mul_one] at hq
      have hB0 : 0 < B := by
        rcases Nat.eq_zero_or_pos B with h' | h'
        · rw [h'] at hRk'; omega
        · exact h'
      have hQm : Q < P m := by
        have h1 := HRB.out
        have h2 : Q * B < P m * B := by rw [Nat.mul_comm (P m)]; omega
        exact Nat.lt_of_mul_lt_mul_right h2
      have hBn : B < P n := by have := lt_P B; rwa [HnB.out] at this
      have hRn : Rk < P (m + n) := Nat.lt_of_lt_of_le (Nat.lt_trans hRk' hBn) (P_mono (by omega))
      have hndk := (nd_le Rk (m + n)).2 hRn
      have HN1 := Lib.hid (norm_ (some ⟨w4.heap.size, 0, none⟩) m m Q wr hQm (Nat.le_refl _) (fun h => by cases h) (by omega) hq.row)
      have HN2 := Lib.hid (norm_x (some ⟨g, 0, none⟩) (m + n) cR Rk wr hRn (by omega) (fun h => by cases h) (by omega) hcs.row)
      have HN3 := Lib.hid (shr_ (some ⟨g, 0, none⟩) (nd Rk) cR Rk s wr (lt_P Rk) (by omega) hsb (hcs.row.less hndk))
      have HD := Lib.hid hd
      clear hd hQm hBn hRn hndk hE' hRk' hcs hq ho hrow hE hRk hB0
      go_wp2_with first
        | (have hq := HX1; clear hq; go_at_call 62; refine HN2.out.mono ?_; rintro e w5 ⟨rfl, rfl⟩)
        | (go_at_call 62; refine HN1.out.mono ?_; rintro e w5 ⟨x1, rfl, h1, rfl⟩; have HX1 := Lib.hid h1; clear h1)
        | (go_at_call 86; refine HN3.out.mono ?_; rintro e w5 ⟨x2, rfl, h1, ho⟩; have HX2 := Lib.hid h1; have HX3 := Lib.hid ho; clear h1 ho)
      go_ret2
      have h5 := (Only.then HO5.out HO.out (fun t ht => by
        simp only [List.mem_cons, List.not_mem_nil, or_false] at ht
        rcases ht with rfl | rfl
        · exact .inr (by omega)
        · exact .inr (by omega)))
      refine ⟨_, _, rfl, ?_, ?_, h5.trans HX3.out⟩
      · rw [← HD.out.1]; exact HX1.out.frame HX3.out
      · rw [← HD.out.2]; exact HX2.out
    | succ j =>
      have ej : ((j + 1 : Nat) : Int) - 1 = (j : Int) := by omega
      rw [ej]
      have hjm : j < m := by omega
      obtain ⟨p, hp⟩ : ∃ p, p = Rk / P j := ⟨_, rfl⟩
      have hpb : p < B * 4294967296 := by
        rw [hp, Nat.div_lt_iff_lt_mul (P_pos j), Nat.mul_assoc, Nat.mul_comm 4294967296, ← P_succ]
        exact hRk.out
      have hBn : B < P (n1 + 1) := by
        have := lt_P B
        rwa [HnB.out, Hn.out] at this
      have hBt : dg B n1 ≠ 0 := dg_top (by rw [HnB.out, Hn.out])
      obtain ⟨g1, g2⟩ := guess hBn hBt hpb
      obtain ⟨jn, hjn⟩ : ∃ jn : Nat, jn = j + n1 := ⟨_, rfl⟩
      have hn := Hn.out
      have hc1 := (hcs (j + n) (by omega)).1
      have hc2 := (hcs jn (by omega)).1
      have E1 : (j : Int) + (n : Int) - 1 = (jn : Int) := by omega
      have E2 : (n : Int) - 1 = (n1 : Int) := by omega
      have hjnl : jn < m + n := by omega
      have hjnn : j + n < m + n := by omega
      have hn1l : n1 < n := by omega
      have hc3 : wr.cell? ⟨gB, n1, none⟩ = some (.int .u64 ((dg B n1 : Nat) : Int)) := by
        rcases hrow with h | ⟨bk, ok, hA, h⟩
        · omega
        · cases hA
          have := h n1 hn1l
          rwa [Nat.zero_add] at this
      have e1 : dg Rk (j + n) = dg p (n1 + 1) := by rw [hn, hp, dg_div]
      have e2 : dg Rk jn = dg p n1 := by rw [hjn, hp, dg_div]
      rw [e1] at hc1
      rw [e2] at hc2
      have hd1 := dg_lt p (n1 + 1)
      have hd2 := dg_lt p n1
      obtain ⟨y, hy⟩ : ∃ y : Nat, y = dg p (n1 + 1) * 4294967296 := ⟨_, rfl⟩
      have W0 : IntKind.u64.wrap (((dg p (n1 + 1) : Nat) : Int) * 4294967296) = (y : Int) := by
        have := wrap_nat (dg p (n1 + 1) * 4294967296) (by omega)
        rw [hy]
        rwa [Int.natCast_mul] at this
      obtain ⟨x, hx⟩ : ∃ x : Nat, x = y + dg p n1 := ⟨_, rfl⟩
      have hxb : x < 18446744073709551616 := by omega
      have W1 : IntKind.u64.wrap ((y : Int) + ((dg p n1 : Nat) : Int)) = (x : Int) := by
        rw [hx, ← Int.natCast_add]
        exact wrap_nat _ (by omega)
      rw [← hy, ← hx] at g1
      rw [← g1] at g2
      obtain ⟨D, hD⟩ : ∃ D : Nat, D = dg B n1 := ⟨_, rfl⟩
      rw [← hD] at hc3 hBt g2
      have hDn : ¬ D = 0 := hBt
      have Q1 : IntKind.u64.wrap ((x : Int) / (D : Int)) = ((x / D : Nat) : Int) := by
        rw [← Int.natCast_ediv]
        exact wrap_nat _ (by have := Nat.div_le_self x D; omega)
      have HG2 := Lib.hid g2
      clear g1 g2 hx hy hd1 hd2 e1 e2 hBn hBt hD hpb hcs hq ho hrow ej hn hjn
      have HHP := Lib.hid hp
      have hxdb : x / D < 18446744073709551616 := Nat.lt_of_le_of_lt (Nat.div_le_self x D) hxb
      clear hp
      generalize ((dg p (n1 + 1) : Nat) : Int) = dd1 at *
      generalize ((dg p n1 : Nat) : Int) = dd2 at *
      generalize x / D = t1 at *
      go_wp2_with fail
      go_quiet (fail)
      go_wp2_with fail
      all_goals
        rename World => ws
        go_loopw [12] (fun tv wr => ∃ t : Nat, tv = .int .u64 (t : Int) ∧ Hid (p / B ≤ t) ∧ t ≤ 4294967295 ∧ Only [] ws wr) (fun tv _ => (intOf tv).toNat)
        case atStart =>
          have hg2 := Nat.le_min.1 HG2.out
          first
            | exact ⟨t1, rfl, hg2.1, by omega, (Only.refl [] ws).drewN _⟩
            | exact ⟨4294967295, rfl, hg2.2, by omega, (Only.refl [] ws).drewN _⟩
        case round =>
          obtain ⟨t, rfl, ht, htb, ho⟩ := hrel
          have hHO := Lib.hid ho
          have hBn : B < P n := by have := lt_P B; rwa [HnB.out] at this
          have hB0 : 0 < B := by
            rcases Nat.eq_zero_or_pos B with h' | h'
            · have := hRk.out; rw [h', Nat.zero_mul] at this; omega
            · exact h'
          have hRP : Rk < P (j + (n + 1)) := by
            have h1 := hRk.out
            rw [show j + (n + 1) = n + (j + 1) by omega, P_add]
            exact Nat.lt_of_lt_of_le h1 (Nat.mul_le_mul_right _ (Nat.le_of_lt hBn))
          have hpP : p < P (n + 1) := by
            have := div_lt_P hRP (Nat.le_add_right j (n + 1))
            rwa [Nat.add_sub_cancel_left, ← HHP.out] at this
          have hprow : Row wr (some ⟨g, j, none⟩) (n + 1) p := by
            refine .inr ⟨g, j, rfl, fun i hi => ?_⟩
            rw [HHP.out, dg_div]
            exact ((HCS.out.frame ho) (j + i) (by omega)).1
          have hnum : Num wr (.slice (some ⟨gB, 0, none⟩) n cB) B := ⟨some ⟨gB, 0, none⟩, cB, by rw [HnB.out], by rw [HnB.out]; exact hcBn, (fun h => by cases h), by rw [HnB.out]; exact HROW.out.frame ho⟩
          have HNUM := Lib.hid hnum
          have HRP := Lib.hid hRP
          have HB0 := Lib.hid hB0
          have HOV := Lib.hid (over_ g j (n + 1) (cR - j) p B t (.slice (some ⟨gB, 0, none⟩) n cB) wr hpP (by omega) (by omega) hprow hnum (by rw [HnB.out]; omega) (by omega))
          clear hnum hprow hpP hRP hB0 hBn ho
          by_cases ht0 : t = 0
          · subst ht0
            have HPQ := Lib.hid (show p / B = 0 from Nat.le_zero.1 ht.out)
            clear htb ht
            go_wp2_with first
              | (have e : j + n + 1 - j = n + 1 := by omega
                 go_at_call 85
                 rw [e]
                 refine (take_ g j (n + 1) (cR - j) (m + n) Rk B 0 (.slice (some ⟨gB, 0, none⟩) n cB) wr HRP.out (by omega) (by omega) (by omega) (by omega) (HCS.out.frame hHO.out) (Num.frame HNUM.out (Only.refl [] wr)) (by rw [HnB.out]; omega) (by omega) (by rw [← HHP.out, ← HPQ.out, Nat.mul_comm]; exact Nat.div_mul_le_self p B)).mono ?_
                 rintro e w7 ⟨rfl, h1, ho7⟩
                 have HC7 := Lib.hid h1
                 have HO7 := Lib.hid ((Only.mono (T := [g, w4.heap.size]) hHO.out (fun s h => by cases h)).trans (Only.mono (T := [g, w4.heap.size]) ho7 (fun s h => by simp only [List.mem_cons, List.not_mem_nil, or_false] at h; subst h; exact .inl (by simp))))
                 have hq7 := (HQ.out.off hHO.out (by simp)).off ho7 (by simp only [List.mem_cons, List.not_mem_nil, or_false]; exact fun h => hggq h.symm)
                 have hcc := World.rowIs.cell hq7 hjm
                 have hfr := World.rowIs.frozen hq7 j
                 have HQ7 := Lib.hid hq7
                 clear h1 ho7 hq7 e)
            go_roundw
            case rel =>
              obtain ⟨d1, d2⟩ := div_round hE.out HB0.out
              rw [← HHP.out, HPQ.out, HHP.out] at d1 d2
              have hset := HQ7.out.set (d := 0) j (by omega)
              rw [setd_shift] at hset
              exact ⟨j, Q * 4294967296 + 0, _, by omega, by go_num, HC7.out.off ((Only.refl [w4.heap.size] w7).setCell (.inl (by simp)) _) (by simp only [List.mem_cons, List.not_mem_nil, or_false]; exact hggq), hset, Lib.hid d1, Lib.hid d2, (HO.out.trans HO7.out).setCell (.inl (by simp)) _⟩
            case measure => simp [intOf]
          · have htp : (0 : Int) < (t : Int) := by omega
            have htp' : 0 < t := by omega
            by_cases hov : p < B * t
            · have HT1 := Lib.hid (show p / B ≤ t - 1 by
                have := (Nat.div_lt_iff_lt_mul HB0.out).2 (show p < t * B by rw [Nat.mul_comm]; exact hov)
                omega)
              have HD1 := Lib.hid (show decide (p < B * t) = true from decide_eq_true hov)
              have W9 : IntKind.u64.wrap ((t : Int) - 1) = ((t - 1 : Nat) : Int) := wrap_sub (n := 1) (by omega) (by omega)
              clear ht hov
              go_wp2_with (go_at_call 84; rw [show j + n + 1 - j = n + 1 by omega]; refine HOV.out.mono ?_; rintro e w6 ⟨rfl, ho6⟩; rw [HD1.out]; have HO6 := Lib.hid ho6; clear ho6)
              go_roundw
              case rel => exact ⟨t - 1, by first | rfl | rw [W9], HT1, by omega, hHO.out.trans HO6.out⟩
              case measure => simp [intOf]; omega
            · have HPQ := Lib.hid (show p / B = t by
                have h1 := ht.out
                have h2 := (Nat.le_div_iff_mul_le HB0.out).2 (show t * B ≤ p by rw [Nat.mul_comm]; omega)
                omega)
              have HD1 := Lib.hid (show decide (p < B * t) = false from decide_eq_false hov)
              clear ht hov
              go_wp2_with first
                | (go_at_call 84; rw [show j + n + 1 - j = n + 1 by omega]; refine HOV.out.mono ?_; rintro e w6 ⟨rfl, ho6⟩; rw [HD1.out]; have HO6 := Lib.hid ho6; clear ho6)
                | (have e : j + n + 1 - j = n + 1 := by omega
                   go_at_call 85
                   rw [e]
                   refine (take_ g j (n + 1) (cR - j) (m + n) Rk B t (.slice (some ⟨gB, 0, none⟩) n cB) w6 HRP.out (by omega) (by omega) (by omega) (by omega) (HCS.out.frame (hHO.out.trans HO6.out)) (Num.frame HNUM.out HO6.out) (by rw [HnB.out]; omega) (by omega) (by rw [← HHP.out, ← HPQ.out, Nat.mul_comm]; exact Nat.div_mul_le_self p B)).mono ?_
                   rintro e w7 ⟨rfl, h1, ho7⟩
                   have HC7 := Lib.hid h1
                   have HO7 := Lib.hid ((Only.mono (T := [g, w4.heap.size]) (hHO.out.trans HO6.out) (fun s h => by cases h)).trans (Only.mono (T := [g, w4.heap.size]) ho7 (fun s h => by simp only [List.mem_cons, List.not_mem_nil, or_false] at h; subst h; exact .inl (by simp))))
                   have hq7 := (HQ.out.off (hHO.out.trans HO6.out) (by simp)).off ho7 (by simp only [List.mem_cons, List.not_mem_nil, or_false]; exact fun h => hggq h.symm)
                   have hcc := World.rowIs.cell hq7 hjm
                   have hfr := World.rowIs.frozen hq7 j
                   have HQ7 := Lib.hid hq7
                   clear h1 ho7 hq7 e)
              go_roundw
              case rel =>
                obtain ⟨d1, d2⟩ := div_round hE.out HB0.out
                rw [← HHP.out, HPQ.out, HHP.out] at d1 d2
                have hset := HQ7.out.set (d := t) j (by omega)
                rw [setd_shift] at hset
                exact ⟨j, Q * 4294967296 + t, _, by omega, by go_num, HC7.out.off ((Only.refl [w4.heap.size] w7).setCell (.inl (by simp)) _) (by simp only [List.mem_cons, List.not_mem_nil, or_false]; exact hggq), hset, Lib.hid d1, Lib.hid d2, (HO.out.trans HO7.out).setCell (.inl (by simp)) _⟩
              case measure => simp [intOf]
end Go.Proofs.YtpamkblhdgjlcaaGreatDoor
