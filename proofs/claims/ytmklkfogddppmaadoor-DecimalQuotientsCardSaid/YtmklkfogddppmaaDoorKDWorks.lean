/- sizes, Times and Quotient of the reference of layer 4. -/
import Derived.Test.YtmklkfogddppmaaDoorKDRefE
import Derived.Test.YtmklkfogddppmaaDoorKApp4
import Derived.Test.YtmklkfogddppmaaDoorKDOps
import Derived.Test.YtmklkfogddppmaaDoorKDTwo
import Derived.Test.YtmklkfogddppmaaDoorKDDiv
import Derived.Test.YtmklkfogddppmaaDoorKPackH
namespace Go.Proofs.YtmklkfogddppmaaDoor
open Go.RowKit Go.Shelf
set_option linter.unusedVariables false
set_option linter.unusedSimpArgs false

set_option maxHeartbeats 1000000 in
theorem sizes_any (w : World) (va vb : Value) (a b : Bs) (hva : Reads w va a) (hvb : Reads w vb b) :
    Calls Tryd.prog 41 #[va, vb] w fun e w' => e = .returned (.bool (okSize a.length && okSize b.length && decide (b.length ≤ 8) && decide (b.length < a.length))) ∧ w = w' := by
  obtain ⟨pa, ca, rfl⟩ := hva.shape (L := a.length) rfl
  obtain ⟨pb, cb, rfl⟩ := hvb.shape (L := b.length) rfl
  clear hva hvb
  generalize a.length = L at *
  generalize b.length = M at *
  cases h1 : okSize (L : Int)
  · go_enter Tryd.func41, Tryd.ntmps41
    go_wp2_with (go_at_call 55; refine (r4size_any _ _).mono ?_; rintro e w2 ⟨rfl, rfl⟩; rw [h1])
    go_returns
    exact ⟨rfl, rfl⟩
  · cases h2 : okSize (M : Int)
    · go_enter Tryd.func41, Tryd.ntmps41
      go_wp2_with (go_at_call 55; refine (r4size_any _ _).mono ?_; rintro e w2 ⟨rfl, rfl⟩; first | rw [h1] | rw [h2])
      go_returns
      exact ⟨rfl, rfl⟩
    · by_cases h3 : (M : Int) ≤ 8
      · by_cases h4 : (M : Int) < (L : Int)
        · rw [decide_eq_true (show M ≤ 8 by omega), decide_eq_true (show M < L by omega)]
          go_enter Tryd.func41, Tryd.ntmps41
          go_wp2_with (go_at_call 55; refine (r4size_any _ _).mono ?_; rintro e w2 ⟨rfl, rfl⟩; first | rw [h1] | rw [h2])
          go_returns
          exact ⟨rfl, rfl⟩
        · rw [decide_eq_true (show M ≤ 8 by omega), decide_eq_false (show ¬ M < L by omega)]
          go_enter Tryd.func41, Tryd.ntmps41
          go_wp2_with (go_at_call 55; refine (r4size_any _ _).mono ?_; rintro e w2 ⟨rfl, rfl⟩; first | rw [h1] | rw [h2])
          go_returns
          exact ⟨by first | rfl | exact ret_bool (decide_eq_false (by omega)).symm, rfl⟩
      · rw [decide_eq_false (show ¬ M ≤ 8 by omega)]
        go_enter Tryd.func41, Tryd.ntmps41
        go_wp2_with (go_at_call 55; refine (r4size_any _ _).mono ?_; rintro e w2 ⟨rfl, rfl⟩; first | rw [h1] | rw [h2])
        go_returns
        exact ⟨rfl, rfl⟩

theorem val_cons (d n : Nat) : val (d :: digs n) = d + 10 * n := by rw [val, val_digs]
theorem cells_one (l : List Nat) : ∀ u ∈ l.map en, u.oneCell' = true := by
  intro u hu
  obtain ⟨d, _, rfl⟩ := List.mem_map.1 hu
  rfl
theorem pow_digit (y i : Nat) : y / 10 ^ i = y / 10 ^ i % 10 + 10 * (y / 10 ^ (i + 1)) := by
  have h := Nat.div_add_mod (y / 10 ^ i) 10
  rw [Nat.pow_succ, ← Nat.div_div_eq_div_mul]; omega

set_option maxRecDepth 100000 in
set_option maxHeartbeats 2000000 in
theorem Times_any (w : World) (va vb : Value) (x y : Nat) (ha : Dg w va x) (hb : Dg w vb y) (hx : x < 10 ^ 100) (hy : y < 10 ^ 100) :
    Calls Tryd.prog 46 #[va, vb] w fun e w' => ∃ u, e = .returned u ∧ Dg w' u (x * y) ∧ Chg [] w w' := by
  have HA := hid ha
  have HB := hid hb
  obtain ⟨a, L, ca, rfl, l1, l2, hL⟩ := ha.shape
  obtain ⟨b, M, cb, rfl, m1, m2, hM⟩ := hb.shape
  have hM100 : M ≤ 100 := by rw [← hM]; exact digs_len_le y 100 hy
  have HYM : Hid (y / 10 ^ M = 0) := by
    refine hid (Nat.div_eq_of_lt ?_)
    rw [← hM]; exact (digs_length y _).1 (Nat.le_refl _)
  have HGD := hid (digs_getD y)
  have HX := hid hx
  have HXY : Hid (∀ k, x * (y / 10 ^ k) < 10 ^ 200) := hid (fun k => by
    have h1 : y / 10 ^ k < 10 ^ 100 := Nat.lt_of_le_of_lt (Nat.div_le_self _ _) hy
    calc x * (y / 10 ^ k) < 10 ^ 100 * 10 ^ 100 := Nat.mul_lt_mul'' hx h1
      _ = 10 ^ 200 := by rw [← Nat.pow_add])
  have HPD := hid (pow_digit y)
  clear ha hb hL hM hx hy
  go_enter Tryd.func46, Tryd.ntmps46
  go_wp2_with (fail)
  go_loopw [5, 6] (fun v i wr => ∃ (k : Nat) (j : Int), i = .int .i64 j ∧ j ≤ (k : Int) - 1 ∧ (k : Int) - 1 ≤ j ∧ k ≤ M ∧ Hid (Dg wr v (x * (y / 10 ^ k))) ∧ Chg [] w wr) (fun _ i _ => (intOf i + 1).toNat)
  case atStart => exact ⟨M, _, rfl, by omega, by omega, by omega, hid (by rw [HYM.out, Nat.mul_zero]; exact Dg.zero _), Chg.refl _ _⟩
  case round =>
    obtain ⟨k, j, rfl, hj1, hj2, hk, HD, hc⟩ := hrel
    obtain ⟨wo, rfl⟩ : ∃ wo : World, wo = wr := ⟨_, rfl⟩
    by_cases h0 : 0 ≤ j
    · obtain ⟨m, rfl⟩ := Int.eq_ofNat_of_zero_le h0
      obtain rfl : k = m + 1 := by omega
      obtain ⟨oa, oL, oc, rfl, o1, o2, hoL⟩ := HD.out.shape
      have hoL2 : oL ≤ 200 := by rw [← hoL]; exact digs_len_le _ 200 (HXY.out (m + 1))
      have HM1 := hid (show ((digs (x * (y / 10 ^ (m + 1)))).map en).length = oL from by rw [List.length_map, hoL])
      obtain ⟨bb, off, rfl, hcell⟩ := (HB.out.keep hc).at m (by omega)
      rw [HGD.out m] at hcell
      have hd : y / 10 ^ m % 10 < 10 := Nat.mod_lt _ (by decide)
      have HZ := hid (show x * (y / 10 ^ m) = 10 * (x * (y / 10 ^ (m + 1))) + y / 10 ^ m % 10 * x from by
        conv => lhs; rw [HPD.out m]
        rw [Nat.mul_add, Nat.mul_comm x (y / 10 ^ m % 10), Nat.mul_left_comm]; omega)
      have HZ2 := hid (HXY.out m)
      have HCB := hid hcell
      clear hoL hcell
      generalize x * (y / 10 ^ (m + 1)) = z at *
      obtain ⟨z', hz'⟩ : ∃ z', x * (y / 10 ^ m) = z' := ⟨_, rfl⟩
      rw [hz'] at HZ HZ2
      have HZE := hid hz'
      clear hz'
      generalize y / 10 ^ m % 10 = d at *
      have hsz := hc.size
      go_upto_block 2 with (at_builtin; refine appendV rfl _ _ 52 rfl wo.heap.size 3 8 (.int .i64 0) Tryd.underlying52 info_int rfl (by decide) HM1.out (HD.out.keep (Chg.alloc _ _ _)) (cells_one _) (own_lit (m := 1) [.int .i64 0] rfl (by decide)) rfl rfl (by omega) (by simp) ?_; intro v' w' ho' hc')
      have HR := hid (ReadsV.ofn (l := 0 :: digs z) (by simpa [en] using ho') (by have := HM1.out; simp at this ⊢; omega))
      have hcw := hc.trans ((Chg.alloc [] wo (.cells #[.int .i64 0] 3)).then hc' (by simp [own, Value.ownBlock]))
      have HC2 := hid (((Chg.alloc [] wo (.cells #[.int .i64 0] 3)).then hc' (by simp [own, Value.ownBlock])).cell HCB.out (by simp))
      clear ho' hc' hc HD
      have HLEN := hid (show (0 :: digs z).length ≤ 300 from by have := HM1.out; simp at this ⊢; omega)
      go_wp2_with (fail)
      go_loopw [5, 7] (fun v i wr => ∃ (t : Nat) (lst : List Nat), i = .int .i64 t ∧ t ≤ d ∧ Hid (ReadsV wr v (lst.map en)) ∧ Hid ((∀ q ∈ lst, q < 10) ∧ lst.length ≤ 300 ∧ val lst = 10 * z + t * x) ∧ Chg [] w' wr) (fun _ i _ => d - (intOf i).toNat)
      case atStart => exact ⟨0, 0 :: digs z, rfl, by omega, HR, hid ⟨cons_lt 0 _ (by decide) (digs_lt z), HLEN.out, by rw [val_cons]; omega⟩, Chg.refl _ _⟩
      case round =>
        obtain ⟨t, lst, rfl, ht, HRv, HI, hci⟩ := hrel
        have hcc := hci.cell HC2.out (by simp)
        have hcw2 := hcw.trans hci
        by_cases htd : t < d
        · have hp := plus_any' wr _ _ lst (digs x) HRv.out (HA.out.keep hcw2) HI.out.1 (digs_lt x) (by have := HI.out.2.1; omega) (Nat.le_trans (digs_len_le x 100 HX.out) (by decide))
          rw [val_digs] at hp
          have HE := hid (show val lst + x = 10 * z + (t + 1) * x from by rw [HI.out.2.2, Nat.add_mul, Nat.one_mul]; omega)
          have HB2 := hid (show 10 * z + (t + 1) * x < 10 ^ 200 from Nat.lt_of_le_of_lt (by rw [HZ.out]; exact Nat.add_le_add_left (Nat.mul_le_mul_right _ htd) _) HZ2.out)
          have htd2 : (t : Int) < (d : Int) := by omega
          clear HI
          go_wp2_with (go_at_call 61; refine hp.mono ?_; rintro e w3 ⟨u, rfl, hdg, hc3⟩)
          go_roundw
          case rel =>
            rw [HE.out] at hdg
            exact ⟨t + 1, digs (10 * z + (t + 1) * x), by go_num, by omega, hdg, hid ⟨digs_lt _, Nat.le_trans (digs_len_le _ 200 HB2.out) (by decide), val_digs _⟩, hci.trans hc3⟩
          case measure => simp [intOf]; omega
        · obtain rfl : t = d := by omega
          have hp := trim_any wr _ lst HRv.out HI.out.1
          rw [HI.out.2.2, ← HZ.out] at hp
          have htd2 : ¬ (t : Int) < (t : Int) := by omega
          clear HI
          go_wp2_with (go_at_call 62; refine hp.mono ?_; rintro e w3 ⟨u, rfl, hdg, rfl⟩)
          go_roundw
          case rel => exact ⟨m, _, rfl, by omega, by omega, by omega, hid (by rw [HZE.out]; exact hdg), hcw2⟩
          case measure => first | (simp [intOf]; done) | (simp [intOf]; omega)
    · obtain rfl : k = 0 := by omega
      have HE := hid (show x * (y / 10 ^ 0) = x * y from by rw [Nat.pow_zero, Nat.div_one])
      rw [HE.out] at HD
      go_wp2_with (fail)
      go_returns
      exact ⟨_, rfl, HD.out, hc⟩

/-- the remainder and the quotient with a digit more -/
theorem quo_step (x y i : Nat) (hy : 0 < y) : (x / 10 ^ i % 10 + 10 * (x / 10 ^ (i + 1) % y)) / y < 10 ∧
    (x / 10 ^ i % 10 + 10 * (x / 10 ^ (i + 1) % y)) / y + 10 * (x / 10 ^ (i + 1) / y) = x / 10 ^ i / y ∧ (x / 10 ^ i % 10 + 10 * (x / 10 ^ (i + 1) % y)) % y = x / 10 ^ i % y := by
  have h1 := pow_digit x i
  have h2 := Nat.div_add_mod (x / 10 ^ (i + 1)) y
  have h3 := Nat.mod_lt (x / 10 ^ (i + 1)) hy
  have h4 : x / 10 ^ i % 10 < 10 := Nat.mod_lt _ (by decide)
  generalize x / 10 ^ i % 10 = d at *
  generalize x / 10 ^ (i + 1) / y = q at *
  generalize x / 10 ^ (i + 1) % y = r at *
  have h5 : x / 10 ^ i = y * (10 * q) + (d + 10 * r) := by rw [h1, ← h2, Nat.mul_left_comm]; omega
  refine ⟨?_, ?_, ?_⟩
  · rw [Nat.div_lt_iff_lt_mul hy]; omega
  · rw [h5, Nat.mul_add_div hy]; omega
  · rw [h5, Nat.mul_add_mod]

set_option maxRecDepth 100000 in
set_option maxHeartbeats 2000000 in
theorem Quotient_any (w : World) (va vb : Value) (x y : Nat) (ha : Dg w va x) (hb : Dg w vb y) (hx : x < 10 ^ 100) (hy : y < 10 ^ 100) (hy0 : 0 < y) :
    Calls Tryd.prog 43 #[va, vb] w fun e w' => ∃ u1 u2, e = .returned (.tuple #[u1, u2]) ∧ Dg w' u1 (x / y) ∧ Dg w' u2 (x % y) ∧ Chg [] w w' := by
  have HA := hid ha
  have HB := hid hb
  obtain ⟨a, L, ca, rfl, l1, l2, hL⟩ := ha.shape
  obtain ⟨b, M, cb, rfl, m1, m2, hM⟩ := hb.shape
  have hL100 : L ≤ 100 := by rw [← hL]; exact digs_len_le x 100 hx
  have HXL : Hid (x / 10 ^ L = 0) := by
    refine hid (Nat.div_eq_of_lt ?_)
    rw [← hL]; exact (digs_length x _).1 (Nat.le_refl _)
  have HGD := hid (digs_getD x)
  have HXB : Hid (∀ k, x / 10 ^ k / y < 10 ^ 100) := hid (fun k => Nat.lt_of_le_of_lt (Nat.le_trans (Nat.div_le_self _ _) (Nat.div_le_self _ _)) hx)
  have HYB : Hid (∀ k, k % y < 10 ^ 100) := hid (fun k => Nat.lt_trans (Nat.mod_lt _ hy0) hy)
  have HQS := hid (fun i => quo_step x y i hy0)
  have HY0 := hid hy0
  have HY := hid hy
  clear ha hb hL hM hx hy hy0
  go_enter Tryd.func43, Tryd.ntmps43
  go_wp2_with (fail)
  go_loopw [6, 7, 8] (fun q r i wr => ∃ (k : Nat) (j : Int), i = .int .i64 j ∧ j ≤ (k : Int) - 1 ∧ (k : Int) - 1 ≤ j ∧ k ≤ L ∧ Hid (Dg wr q (x / 10 ^ k / y)) ∧ Hid (Dg wr r (x / 10 ^ k % y)) ∧ Chg [] w wr) (fun _ _ i _ => (intOf i + 1).toNat)
  case atStart => exact ⟨L, _, rfl, by omega, by omega, by omega, hid (by rw [HXL.out, Nat.zero_div]; exact Dg.zero _), hid (by rw [HXL.out, Nat.zero_mod]; exact Dg.zero _), Chg.refl _ _⟩
  case round =>
    obtain ⟨k, j, rfl, hj1, hj2, hk, HQ, HR, hc⟩ := hrel
    obtain ⟨wo, rfl⟩ : ∃ wo : World, wo = wr := ⟨_, rfl⟩
    by_cases h0 : 0 ≤ j
    · obtain ⟨m, rfl⟩ := Int.eq_ofNat_of_zero_le h0
      obtain rfl : k = m + 1 := by omega
      obtain ⟨qa, qL, qc, rfl, q1, q2, hqL⟩ := HQ.out.shape
      obtain ⟨ra, rL, rc, rfl, r1, r2, hrL⟩ := HR.out.shape
      have hqL2 : qL ≤ 100 := by rw [← hqL]; exact digs_len_le _ 100 (HXB.out (m + 1))
      have hrL2 : rL ≤ 100 := by rw [← hrL]; exact digs_len_le _ 100 (HYB.out _)
      have HM1 := hid (show ((digs (x / 10 ^ (m + 1) % y)).map en).length = rL from by rw [List.length_map, hrL])
      have HM2 := hid (show ((digs (x / 10 ^ (m + 1) / y)).map en).length = qL from by rw [List.length_map, hqL])
      obtain ⟨bb, off, rfl, hcell⟩ := (HA.out.keep hc).at m (by omega)
      rw [HGD.out m] at hcell
      have hd : x / 10 ^ m % 10 < 10 := Nat.mod_lt _ (by decide)
      have hs := HQS.out m
      have HS := hid hs
      have HZ3 := hid (HXB.out m)
      have HZ4 := hid (HYB.out (x / 10 ^ (m + 1)))
      clear hqL hrL hs
      obtain ⟨zq, hzq⟩ : ∃ z, x / 10 ^ m / y = z := ⟨_, rfl⟩
      obtain ⟨zr, hzr⟩ : ∃ z, x / 10 ^ m % y = z := ⟨_, rfl⟩
      rw [hzq] at HZ3
      rw [hzq, hzr] at HS
      have HZQ := hid hzq
      have HZR := hid hzr
      clear hzq hzr
      generalize x / 10 ^ (m + 1) / y = q at *
      generalize x / 10 ^ (m + 1) % y = r at *
      generalize x / 10 ^ m % 10 = d at *
      have hsz := hc.size
      go_upto_block 2 with (first
        | (go_at_call 62; refine (trim_any _ _ _ HRR.out (cons_lt d _ hd (digs_lt r))).mono ?_; rintro e w3 ⟨u, rfl, hdg, rfl⟩)
        | (at_builtin; refine appendV rfl _ _ 52 rfl wo.heap.size 3 8 (.int .i64 0) Tryd.underlying52 info_int rfl (by decide) HM1.out (HR.out.keep (Chg.alloc _ _ _)) (cells_one _) (own_lit (m := 1) [.int .i64 (d : Int)] rfl (by decide)) rfl rfl (by omega) (by simp) ?_; intro v' w' ho' hc'; have HRR := hid (ReadsV.ofn (l := d :: digs r) (by simpa [en] using ho') (by have := HM1.out; simp at this ⊢; omega))))
      have hcw := (Chg.alloc [] wo (.cells #[.int .i64 (d : Int)] 3)).then hc' (by simp [own, Value.ownBlock])
      have HQ2 := hid (HQ.out.keep hcw)
      rw [val_cons] at hdg
      have HDG := hid hdg
      have hcw2 := hc.trans hcw
      clear ho' hc' hc HQ HRR HR hdg hcell hcw
      go_wp2_with (fail)
      go_loopw [7, 9] (fun v i wr => ∃ (t : Nat), i = .int .i64 t ∧ t * y ≤ d + 10 * r ∧ Hid (Dg wr v (d + 10 * r - t * y)) ∧ Chg [] w' wr) (fun _ i _ => d + 10 * r + 1 - (intOf i).toNat)
      case atStart => exact ⟨0, rfl, by omega, hid (by rw [Nat.zero_mul, Nat.sub_zero]; exact HDG.out), Chg.refl _ _⟩
      case round =>
        obtain ⟨t, rfl, ht, HRv, hci⟩ := hrel
        have hcw3 := hcw2.trans hci
        have hl := rLess_any wr _ _ _ _ HRv.out (HB.out.keep hcw3)
        by_cases hlt : d + 10 * r - t * y < y
        · rw [decide_eq_true hlt] at hl
          have ht2 : (d + 10 * r) / y = t := by
            refine Nat.div_eq_of_lt_le ht ?_
            rw [Nat.add_mul, Nat.one_mul]; omega
          have HS2 := HS.out
          rw [ht2] at HS2
          have ht10 : t < 10 := HS2.1
          have HV := hid (show val (t :: digs q) = zq from by rw [val_cons]; exact HS2.2.1)
          have HRE := hid (show d + 10 * r - t * y = zr from by
            rw [← HS2.2.2, Nat.mod_eq_sub_mul_div, ht2, Nat.mul_comm y t])
          rw [HRE.out] at HRv
          have HRD := hid (show Dg wr _ zr from HRv.out)
          have HQ3 := hid (HQ2.out.keep hci)
          have hszw : w.heap.size ≤ wr.heap.size := hcw3.size
          clear hlt ht2 HS2 HS ht HQ2 HRv HDG
          go_wp2_with (first
            | (go_at_call 67; refine hl.mono ?_; rintro e w3 ⟨rfl, rfl⟩)
            | (go_at_call 62; refine (trim_any _ _ _ HRR.out (cons_lt t _ ht10 (digs_lt q))).mono ?_; rintro e w3 ⟨u, rfl, hdg, rfl⟩)
            | (at_builtin; refine appendV rfl _ _ 52 rfl wr.heap.size 3 8 (.int .i64 0) Tryd.underlying52 info_int rfl (by decide) HM2.out (HQ3.out.keep (Chg.alloc _ _ _)) (cells_one _) (own_lit (m := 1) [.int .i64 (t : Int)] rfl (by decide)) rfl rfl (by omega) (by simp) ?_; intro v' w3 ho' hc'; have HRR := hid (ReadsV.ofn (l := t :: digs q) (by simpa [en] using ho') (by have := HM2.out; simp at this ⊢; omega))))
          go_roundw
          case rel =>
            have hcx := (Chg.alloc [] wr (.cells #[.int .i64 (t : Int)] 3)).then hc' (by simp [own, Value.ownBlock])
            rw [HV.out] at hdg
            exact ⟨m, _, rfl, by omega, by omega, by omega, hid (by rw [HZQ.out]; exact hdg), hid (by rw [HZR.out]; exact HRD.out.keep hcx), hcw3.trans hcx⟩
          case measure => first | (simp [intOf]; done) | (simp [intOf]; omega)
        · rw [decide_eq_false hlt] at hl
          have hN : d + 10 * r < 10 ^ 102 := by have := HZ4.out; omega
          have hm := rminus_any wr _ _ _ _ HRv.out (HB.out.keep hcw3) (Nat.lt_of_le_of_lt (Nat.sub_le _ _) (Nat.lt_trans hN (by decide))) (Nat.le_of_not_lt hlt)
          have HE := hid (show d + 10 * r - t * y - y = d + 10 * r - (t + 1) * y from by rw [Nat.add_mul, Nat.one_mul, Nat.sub_sub])
          have hle : (t + 1) * y ≤ d + 10 * r := by rw [Nat.add_mul, Nat.one_mul]; omega
          have hty : t ≤ d + 10 * r := Nat.le_trans (Nat.le_mul_of_pos_right t HY0.out) ht
          have hty2 : t + 1 ≤ d + 10 * r := Nat.le_trans (Nat.le_mul_of_pos_right (t + 1) HY0.out) hle
          have hbig : (t : Int) < 1000 := by have : t < 10 := Nat.lt_of_mul_lt_mul_right (a := y) (by have := HS.out.1; rw [Nat.div_lt_iff_lt_mul HY0.out] at this; omega); omega
          have HLE := hid hle
          have HTY := hid hty2
          clear hlt hN ht hty hle hty2 HS
          go_wp2_with (first
            | (go_at_call 67; refine hl.mono ?_; rintro e w3 ⟨rfl, rfl⟩)
            | (go_at_call 68; refine hm.mono ?_; rintro e w3 ⟨u, rfl, hdg, hc3⟩))
          go_roundw
          case rel => exact ⟨t + 1, by go_num, HLE.out, hid (by rw [← HE.out]; exact hdg), hci.trans hc3⟩
          case measure => have := HTY.out; simp [intOf]; omega
    · obtain rfl : k = 0 := by omega
      rw [Nat.pow_zero, Nat.div_one] at HQ HR
      go_wp2_with (fail)
      go_returns
      exact ⟨_, _, rfl, HQ.out, HR.out, hc⟩

end Go.Proofs.YtmklkfogddppmaaDoor

/- Multiply and Divide of the reference of layer 4. -/
namespace Go.Proofs.YtmklkfogddppmaaDoor
open Go.RowKit Go.Shelf
set_option linter.unusedVariables false
set_option linter.unusedSimpArgs false

theorem okOps_iff (a b : Bs) : (okSize a.length && okSize b.length && decide (b.length ≤ 8) && decide (b.length < a.length)) = okOps a b := rfl
theorem own_slice {w : World} {B e n : Nat} {v : Value} {xs : List Value} (h : w.ownsRow B e 1 v n xs) : ∃ ad cap, v = .slice ad n cap ∧ xs.length = n := by
  have h1 : xs.length = n := by have := h.1; omega
  rcases h.2 with ⟨rfl, hn⟩ | ⟨g, cap, cur, rfl, _⟩
  · exact ⟨none, 0, by rw [hn], h1⟩
  · exact ⟨_, _, rfl, h1⟩

set_option maxHeartbeats 1000000 in
theorem rMultiply_bad (w : World) (va vb : Value) (a b : Bs) (hva : Reads w va a) (hvb : Reads w vb b) (hc : codeM a b ≠ 0) :
    Calls Tryd.prog 18 #[va, vb] w fun e w' => e = .returned (.tuple #[.slice none 0 0, .int .i64 (codeM a b)]) ∧ Chg [] w w' := by
  have S := sizes_any w va vb a b hva hvb
  rw [okOps_iff] at S
  have P := two_any w va vb a b hva hvb
  cases h : okOps a b
  · rw [h] at S
    have hm : codeM a b = 6 := by unfold codeM; rw [h]; rfl
    rw [hm]
    clear hva hvb hc hm P
    go_enter Tryd.func18, Tryd.ntmps18
    go_wp2_with (go_at_call 41; refine S.mono ?_; rintro e w2 ⟨rfl, rfl⟩)
    go_returns
    exact ⟨rfl, Chg.refl _ _⟩
  · rw [h] at S
    have hm : codeM a b = codeS a b := by unfold codeM; rw [h]; rfl
    rw [hm] at hc ⊢
    have e0 : (codeS a b != 0) = true := by simp [hc]
    clear hva hvb hm hc
    generalize codeS a b = c at *
    generalize pn c a = n1 at *
    generalize pn c b = n2 at *
    generalize pv c a = v1 at *
    generalize pv c b = v2 at *
    go_enter Tryd.func18, Tryd.ntmps18
    go_wp2_with (first | (go_at_call 41; refine S.mono ?_; rintro e w2 ⟨rfl, rfl⟩) | (go_at_call 42; refine P.mono ?_; rintro e w2 ⟨u1, u2, rfl, hd1, hd2, hc1⟩; obtain ⟨ua, uL, uc, rfl, -, -, -⟩ := hd1.shape; obtain ⟨ta, tL, tc, rfl, -, -, -⟩ := hd2.shape; clear hd1 hd2))
    go_returns
    exact ⟨rfl, (hc1.trans (Chg.alloc _ _ _)).trans (Chg.alloc _ _ _)⟩

set_option maxHeartbeats 1000000 in
theorem rDivide_bad (w : World) (va vb : Value) (a b : Bs) (hva : Reads w va a) (hvb : Reads w vb b) (hc : codeM a b ≠ 0) :
    Calls Tryd.prog 14 #[va, vb] w fun e w' => e = .returned (.tuple #[.slice none 0 0, .int .i64 (codeM a b)]) ∧ Chg [] w w' := by
  have S := sizes_any w va vb a b hva hvb
  rw [okOps_iff] at S
  have P := two_any w va vb a b hva hvb
  cases h : okOps a b
  · rw [h] at S
    have hm : codeM a b = 6 := by unfold codeM; rw [h]; rfl
    rw [hm]
    clear hva hvb hc hm P
    go_enter Tryd.func14, Tryd.ntmps14
    go_wp2_with (go_at_call 41; refine S.mono ?_; rintro e w2 ⟨rfl, rfl⟩)
    go_returns
    exact ⟨rfl, Chg.refl _ _⟩
  · rw [h] at S
    have hm : codeM a b = codeS a b := by unfold codeM; rw [h]; rfl
    rw [hm] at hc ⊢
    have e0 : (codeS a b != 0) = true := by simp [hc]
    clear hva hvb hm hc
    generalize codeS a b = c at *
    generalize pn c a = n1 at *
    generalize pn c b = n2 at *
    generalize pv c a = v1 at *
    generalize pv c b = v2 at *
    go_enter Tryd.func14, Tryd.ntmps14
    go_wp2_with (first | (go_at_call 41; refine S.mono ?_; rintro e w2 ⟨rfl, rfl⟩) | (go_at_call 42; refine P.mono ?_; rintro e w2 ⟨u1, u2, rfl, hd1, hd2, hc1⟩; obtain ⟨ua, uL, uc, rfl, -, -, -⟩ := hd1.shape; obtain ⟨ta, tL, tc, rfl, -, -, -⟩ := hd2.shape; clear hd1 hd2))
    go_returns
    exact ⟨rfl, (hc1.trans (Chg.alloc _ _ _)).trans (Chg.alloc _ _ _)⟩

theorem okOps_of (a b : Bs) (h : codeM a b = 0) : okOps a b = true := by
  cases ho : okOps a b with
  | true => rfl
  | false => unfold codeM at h; rw [ho] at h; cases h

set_option maxRecDepth 100000 in
set_option maxHeartbeats 2000000 in
theorem rMultiply_good (w : World) (va vb : Value) (a b : Bs) (hva : Reads w va a) (hvb : Reads w vb b) (hc : codeM a b = 0) :
    Calls Tryd.prog 18 #[va, vb] w fun e w' => ∃ u, e = .returned (.tuple #[u, .int .i64 (mulF a b).2]) ∧
      w'.ownsRow w.heap.size 5 1 u (mulF a b).1.length ((mulF a b).1.map eb) ∧ Chg [] w w' := by
  have S := sizes_any w va vb a b hva hvb
  rw [okOps_iff, okOps_of a b hc] at S
  have P := two_any w va vb a b hva hvb
  obtain ⟨k0, k1, k2⟩ := code_ops a b hc
  obtain ⟨pb, cb, rfl⟩ := hvb.shape (L := b.length) rfl
  unfold pn pv at P
  rw [if_pos k0, if_pos k0, if_pos k0, if_pos k0, k0] at P
  obtain ⟨l1, l2, l3, l4⟩ := code_len a b k0
  have hMul : mulF a b = if ∀ i, i < b.length → bN a i = 0 then (fldN a.length (rn a != rn b) (rv a * rv b), 0) else ([], 7) := by unfold mulF; rw [if_pos hc]
  obtain ⟨R, hR⟩ : ∃ R, mulF a b = R := ⟨_, rfl⟩
  rw [hR] at hMul ⊢
  have HT := hid (fun W u1 u2 h1 h2 => Times_any W u1 u2 (rv a) (rv b) h1 h2 (Nat.lt_trans (rv_lt a) (by decide)) (Nat.lt_trans (rv_lt b) (by decide)))
  rcases hva.parts (L := a.length) rfl with ⟨_, h0, _⟩ | ⟨bb, off, cap, rfl, _, hm4, hm5, HCL⟩
  · omega
  have HMUL := hid hMul
  clear hR hMul hva hvb k0 hc
  generalize hL : a.length = L at *
  generalize hM : b.length = M at *
  have HF := hid (fun W ng v u h => Field_any W ng v u L h l1 l2)
  generalize hra : rv a = av at *
  generalize hrb : rv b = bv at *
  generalize rn a = an at *
  generalize rn b = bn at *
  clear hra hrb
  go_enter Tryd.func18, Tryd.ntmps18
  go_upto_region 6 with (first | (go_at_call 41; refine S.mono ?_; rintro e w2 ⟨rfl, rfl⟩) | (go_at_call 42; refine P.mono ?_; rintro e w2 ⟨u1, u2, rfl, hd1, hd2, hc1⟩; have HD1 := hid hd1; have HD2 := hid hd2; obtain ⟨ua, uL, uc, rfl, -, -, -⟩ := hd1.shape; obtain ⟨ta, tL, tc, rfl, -, -, -⟩ := hd2.shape; clear hd1 hd2))
  have HX := hid (al_old (o := .cells #[.bool bn, .slice ta tL tc] 54) (heap_alloc_new w2 (.cells #[.bool an, .slice ua uL uc] 54)))
  have HY := hid (al_new (w := w2.alloc (.cells #[.bool an, .slice ua uL uc] 54)) (o := .cells #[.bool bn, .slice ta tL tc] 54) (k := w2.heap.size + 1) (by simp))
  have hc2 := (Chg.alloc [] w2 (.cells #[.bool an, .slice ua uL uc] 54)).trans (Chg.alloc [] _ (.cells #[.bool bn, .slice ta tL tc] 54))
  generalize (w2.alloc (.cells #[.bool an, .slice ua uL uc] 54)).alloc (.cells #[.bool bn, .slice ta tL tc] 54) = W1 at *
  have HD1' := hid (HD1.out.keep hc2)
  have HD2' := hid (HD2.out.keep hc2)
  have hc3 := hc1.trans hc2
  clear HD1 HD2 hc1 hc2 P S
  have HB : Hid (∀ i, i < M → W1.cell? ⟨bb, off + i, none⟩ = some (.int .u8 (bN a i : Int))) := hid (fun i hi => hc3.cell (HCL.out i (by omega)) (by simp))
  go_wp2_with (fail)
  go_loopw [9] (fun i wr => ∃ k : Nat, k ≤ M ∧ i = .int .i64 k ∧ Hid (∀ j, j < k → bN a j = 0) ∧ wr = W1) (fun i _ => M - (intOf i).toNat)
  case atStart => exact ⟨0, by omega, rfl, hid (fun j hj => by omega), rfl⟩
  case round =>
    obtain ⟨k, hk, rfl, hzk, rfl⟩ := hrel
    by_cases hkM : k < M
    · have hkI : (k : Int) < (M : Int) := by omega
      have hkL : (k : Int) < (L : Int) := by omega
      have cx := HB.out k hkM
      have hx := bN_lt a k
      obtain ⟨x, hxx⟩ : ∃ x, bN a k = x := ⟨_, rfl⟩
      rw [hxx] at cx hx
      by_cases h0 : x = 0
      · have e0 : ((x : Int) != 0) = false := by simp [h0]
        have HZ : Hid (∀ j, j < k + 1 → bN a j = 0) := hid (fun j hj => by
          rcases (by omega : j < k ∨ j = k) with h | h
          · exact hzk.out j h
          · rw [h, hxx, h0])
        clear hxx
        go_wp2_with (fail)
        go_roundw
        case measure => first | omega | (simp [intOf]; omega)
        case rel => exact ⟨k + 1, by omega, by go_num, HZ, by first | rfl | trivial⟩
      · have e0 : ((x : Int) != 0) = true := by simp [h0]
        have hno : ¬ ∀ i, i < M → bN a i = 0 := fun h => h0 (by rw [← hxx]; exact h k hkM)
        have hM2 := HMUL.out
        rw [if_neg hno] at hM2
        subst hM2
        clear hxx HMUL
        go_wp2_with (fail)
        go_returns
        exact ⟨_, rfl, World.ownsRow_nil _ _ _ _, hc3⟩
    · obtain rfl : k = M := by omega
      have hkI : ¬ (k : Int) < (k : Int) := by omega
      have hM2 := HMUL.out
      rw [if_pos hzk.out] at hM2
      have HR := hid hM2
      have HLL := hid (show (fldN L (an != bn) (av * bv)).length = L from by simp [fldN, fld_length])
      clear HMUL hM2 HB hzk HCL
      obtain ⟨c0, c1⟩ := two_cells HX.out
      obtain ⟨d0, d1⟩ := two_cells HY.out
      have HC3 := hid hc3
      go_wp2_with (fail)
      go_region_held3 (fun w' => w'.cell? ⟨w2.heap.size, 0, none⟩ = some (.bool an) ∧ w'.cell? ⟨w2.heap.size, 1, none⟩ = some (.slice ua uL uc) ∧ w'.cell? ⟨w2.heap.size + 1, 0, none⟩ = some (.bool bn) ∧ w'.cell? ⟨w2.heap.size + 1, 1, none⟩ = some (.slice ta tL tc))
        (first | (go_keep; done) | (go_split_ands; refine ⟨?_, ?_, ?_, ?_⟩ <;> exact hc'.cell (by assumption) (by simp)))
        (first | (go_at_call 44; refine (HF.out _ _ _ _ HZD.out).mono ?_; rintro e w6 ⟨u6, rfl, hO, hc'⟩; have HO := hid hO; have HC7 := hid hc'; clear hO) | (go_at_call 46; refine (HT.out _ _ _ (HD1'.out.keep (Chg.drew [] _)) (HD2'.out.keep (Chg.drew [] _))).mono ?_; rintro e w5 ⟨u5, rfl, hdg, hc'⟩; have HZD := hid hdg; obtain ⟨za, zL, zc, rfl, -, -, -⟩ := hdg.shape; have HC6 := hid ((HC3.out.trans (Chg.drew [] _)).trans hc'); clear hdg))
      all_goals go_wp2_with (fail)
      all_goals go_returns
      all_goals
        have hR := HR.out
        subst hR
        exact ⟨u6, by simp [Act.put], by rw [HLL.out]; exact own_base HO.out HC6.out.size, HC6.out.trans HC7.out⟩

end Go.Proofs.YtmklkfogddppmaaDoor

/- Divide of the reference of layer 4. -/
namespace Go.Proofs.YtmklkfogddppmaaDoor
open Go.RowKit Go.Shelf
set_option linter.unusedVariables false
set_option linter.unusedSimpArgs false

theorem cells_byte (l : Bs) : ∀ u ∈ l.map eb, u.oneCell' = true := by
  intro u hu
  obtain ⟨d, _, rfl⟩ := List.mem_map.1 hu
  rfl

set_option maxRecDepth 100000 in
set_option maxHeartbeats 2000000 in
theorem rDivide_good (w : World) (va vb : Value) (a b : Bs) (hva : Reads w va a) (hvb : Reads w vb b) (hc : codeM a b = 0) :
    Calls Tryd.prog 14 #[va, vb] w fun e w' => ∃ u, e = .returned (.tuple #[u, .int .i64 (divF a b).2]) ∧
      w'.ownsRow w.heap.size 5 1 u (divF a b).1.length ((divF a b).1.map eb) ∧ Chg [] w w' := by
  have S := sizes_any w va vb a b hva hvb
  rw [okOps_iff, okOps_of a b hc] at S
  have P := two_any w va vb a b hva hvb
  obtain ⟨k0, k1, k2⟩ := code_ops a b hc
  obtain ⟨pa, ca, rfl⟩ := hva.shape (L := a.length) rfl
  obtain ⟨pb, cb, rfl⟩ := hvb.shape (L := b.length) rfl
  unfold pn pv at P
  rw [if_pos k0, if_pos k0, if_pos k0, if_pos k0, k0] at P
  obtain ⟨l1, l2, l3, l4⟩ := code_len a b k0
  have hDiv : divF a b = if rv b = 0 then ([], 11) else if 10 ^ (2 * (a.length - b.length) - 1) ≤ rv a / rv b then ([], 11) else (fldN (a.length - b.length) (rn a != rn b) (rv a / rv b) ++ fldN b.length (rn a) (rv a % rv b), 0) := by unfold divF; rw [if_pos hc]
  obtain ⟨R, hR⟩ : ∃ R, divF a b = R := ⟨_, rfl⟩
  rw [hR] at hDiv ⊢
  have HQ := hid (fun W u1 u2 h1 h2 h0 => Quotient_any W u1 u2 (rv a) (rv b) h1 h2 (Nat.lt_trans (rv_lt a) (by decide)) (Nat.lt_trans (rv_lt b) (by decide)) h0)
  have HDIV := hid hDiv
  clear hR hDiv hva hvb k0 hc
  generalize hL : a.length = L at *
  generalize hM : b.length = M at *
  have HF1 := hid (fun W ng v u h => Field_any W ng v u (L - M) h (by omega) (by omega))
  have HF2 := hid (fun W ng v u h => Field_any W ng v u M h l3 l4)
  have hLM : ((L - M : Nat) : Int) = (L : Int) - (M : Int) := by omega
  generalize hra : rv a = av at *
  generalize hrb : rv b = bv at *
  generalize rn a = an at *
  generalize rn b = bn at *
  clear hra hrb
  have HL1 := hid (show (fldN (L - M) (an != bn) (av / bv)).length = L - M from by simp [fldN, fld_length])
  have HL2 := hid (show (fldN M an (av % bv)).length = M from by simp [fldN, fld_length])
  go_enter Tryd.func14, Tryd.ntmps14
  go_upto_region 6 with (first | (go_at_call 41; refine S.mono ?_; rintro e w2 ⟨rfl, rfl⟩) | (go_at_call 42; refine P.mono ?_; rintro e w2 ⟨u1, u2, rfl, hd1, hd2, hc1⟩; have HD1 := hid hd1; have HD2 := hid hd2; obtain ⟨ua, uL, uc, rfl, -, -, -⟩ := hd1.shape; obtain ⟨ta, tL, tc, rfl, -, -, htL⟩ := hd2.shape; clear hd1 hd2))
  have HX := hid (al_old (o := .cells #[.bool bn, .slice ta tL tc] 54) (heap_alloc_new w2 (.cells #[.bool an, .slice ua uL uc] 54)))
  have HY := hid (al_new (w := w2.alloc (.cells #[.bool an, .slice ua uL uc] 54)) (o := .cells #[.bool bn, .slice ta tL tc] 54) (k := w2.heap.size + 1) (by simp))
  have hc2 := (Chg.alloc [] w2 (.cells #[.bool an, .slice ua uL uc] 54)).trans (Chg.alloc [] _ (.cells #[.bool bn, .slice ta tL tc] 54))
  generalize (w2.alloc (.cells #[.bool an, .slice ua uL uc] 54)).alloc (.cells #[.bool bn, .slice ta tL tc] 54) = W1 at *
  have HD1' := hid (HD1.out.keep hc2)
  have HD2' := hid (HD2.out.keep hc2)
  have hc3 := hc1.trans hc2
  have h0 := digs_len0 bv
  rw [htL] at h0
  clear HD1 HD2 hc1 hc2 P S htL
  obtain ⟨c0, c1⟩ := two_cells HX.out
  obtain ⟨d0, d1⟩ := two_cells HY.out
  by_cases hz : bv = 0
  · have hL0 : tL = 0 := h0.2 hz
    have hR := HDIV.out
    rw [if_pos hz] at hR
    subst hL0 hR
    clear h0 hz HDIV HQ
    go_wp2_with (fail)
    go_returns
    exact ⟨_, rfl, World.ownsRow_nil _ _ _ _, hc3⟩
  · have hL0 : ((tL : Int) == 0) = false := beq_eq_false_iff_ne.2 (by omega)
    have hR := HDIV.out
    rw [if_neg hz] at hR
    have HR := hid hR
    have hq := HQ.out W1 _ _ HD1'.out HD2'.out (Nat.pos_of_ne_zero hz)
    clear h0 hz HDIV HQ hR
    go_upto_region 9 with (go_at_call 43; refine hq.mono ?_; rintro e w3 ⟨q1, q2, rfl, hdq, hdr, hc4⟩; have HDQ := hid hdq; have HDR := hid hdr; obtain ⟨qa, qL, qc, rfl, -, -, -⟩ := hdq.shape; obtain ⟨ra, rL, rc, rfl, -, -, -⟩ := hdr.shape; clear hdq hdr)
    have HX3 := hid (hc4.heap HX.out (by simp))
    have HY3 := hid (hc4.heap HY.out (by simp))
    have hc5 := hc3.trans hc4
    clear hc3 hc4 c0 c1 d0 d1 HX HY hq HD1' HD2' hL0
    obtain ⟨c0, c1⟩ := two_cells HX3.out
    obtain ⟨d0, d1⟩ := two_cells HY3.out
    have hf1 := HF1.out w3 (an != bn) _ _ HDQ.out
    rw [hLM] at hf1
    by_cases hov : 10 ^ (2 * (L - M) - 1) ≤ av / bv
    · rw [decide_eq_true hov] at hf1
      have hR := HR.out
      rw [if_pos hov] at hR
      subst hR
      clear hov HR HF1
      go_wp2_with (go_at_call 44; refine hf1.mono ?_; rintro e w4 ⟨u4, rfl, hO, hc6⟩)
      go_returns
      exact ⟨_, rfl, World.ownsRow_nil _ _ _ _, hc5.trans hc6⟩
    · rw [decide_eq_false hov] at hf1
      have hR := HR.out
      rw [if_neg hov] at hR
      have HR2 := hid hR
      clear hov HR HF1 hR
      generalize fldN (L - M) (an != bn) (av / bv) = f1 at *
      go_upto_region 12 with (go_at_call 44; refine hf1.mono ?_; rintro e w4 ⟨u4, rfl, hO, hc6⟩; obtain ⟨fa, fc, rfl, -⟩ := own_slice hO)
      have HX4 := hid (hc6.heap HX3.out (by simp))
      have hf2 := HF2.out w4 an _ _ (HDR.out.keep hc6)
      have hc7 := hc5.trans hc6
      have HO := hid hO
      have hsz5 := hc5.size
      have hsz6 := hc6.size
      clear c0 c1 d0 d1 HX3 HY3 hf1 hO hc6 hc5
      obtain ⟨c0, c1⟩ := two_cells HX4.out
      generalize fldN M an (av % bv) = f2 at *
      have hsz := hc7.size
      go_wp2_with (first
        | (go_at_call 44; refine hf2.mono ?_; rintro e w5 ⟨u5, rfl, hO2, hc8⟩; obtain ⟨ga, gc, rfl, hgl⟩ := own_slice hO2; have HO2 := hid (ReadsV.of_own (show w5.ownsRow _ _ 1 _ (f2.map eb).length _ by rw [hgl]; exact hO2)); have HGL := hid hgl; have HO3 := hid (own_keep HO.out hc8 (by simp)); have hsz2 := hc8.size; clear hgl hO2)
        | (at_builtin; refine appendV rfl _ _ 22 rfl w3.heap.size 5 1 (.int .u8 0) Tryd.underlying22 info_u8 rfl (by decide) HGL.out HO2.out (cells_byte _) HO3.out rfl rfl (by omega) (by omega) ?_; intro v' w6 ho' hc9))
      go_returns
      have hR := HR2.out
      subst hR
      refine ⟨_, rfl, ?_, ?_⟩
      · rw [List.map_append, List.length_append, HL1.out, HL2.out]
        exact own_base ho' (by omega)
      · exact (hc7.trans hc8).then hc9 (fun i hi hlt => by have h5 := own_ge HO3.out i hi; omega)

end Go.Proofs.YtmklkfogddppmaaDoor

/- Multiply and Divide, of the program and of the reference of layer 4, as a whole. -/
namespace Go.Proofs.YtmklkfogddppmaaDoor
open Go.RowKit Go.Shelf
set_option linter.unusedVariables false

theorem Multiply_any (w : World) (va vb : Value) (a b : Bs) (hva : Reads w va a) (hvb : Reads w vb b) (ht : Tab w) :
    Calls Tryd.prog 17 #[va, vb] w fun e w' => ∃ u, e = .returned (.tuple #[u, .int .i64 (mulF a b).2]) ∧
      w'.ownsRow w.heap.size 5 1 u (mulF a b).1.length ((mulF a b).1.map eb) ∧ Chg [] w w' := by
  by_cases hc : codeM a b = 0
  · exact Multiply_good w va vb a b hva hvb ht hc
  · refine (Multiply_bad w va vb a b hva hvb hc).mono ?_
    rintro e w' ⟨rfl, hcc⟩
    unfold mulF
    rw [if_neg hc]
    exact ⟨_, rfl, World.ownsRow_nil _ _ _ _, hcc⟩
theorem rMultiply_any (w : World) (va vb : Value) (a b : Bs) (hva : Reads w va a) (hvb : Reads w vb b) :
    Calls Tryd.prog 18 #[va, vb] w fun e w' => ∃ u, e = .returned (.tuple #[u, .int .i64 (mulF a b).2]) ∧
      w'.ownsRow w.heap.size 5 1 u (mulF a b).1.length ((mulF a b).1.map eb) ∧ Chg [] w w' := by
  by_cases hc : codeM a b = 0
  · exact rMultiply_good w va vb a b hva hvb hc
  · refine (rMultiply_bad w va vb a b hva hvb hc).mono ?_
    rintro e w' ⟨rfl, hcc⟩
    unfold mulF
    rw [if_neg hc]
    exact ⟨_, rfl, World.ownsRow_nil _ _ _ _, hcc⟩
theorem Divide_any (w : World) (va vb : Value) (a b : Bs) (hva : Reads w va a) (hvb : Reads w vb b) (ht : Tab w) :
    Calls Tryd.prog 13 #[va, vb] w fun e w' => ∃ u, e = .returned (.tuple #[u, .int .i64 (divF a b).2]) ∧
      w'.ownsRow w.heap.size 5 1 u (divF a b).1.length ((divF a b).1.map eb) ∧ Chg [] w w' := by
  by_cases hc : codeM a b = 0
  · by_cases hz : rv b = 0
    · refine (Divide_zero w va vb a b hva hvb hc hz).mono ?_
      rintro e w' ⟨rfl, hcc⟩
      unfold divF
      rw [if_pos hc, if_pos hz]
      exact ⟨_, rfl, World.ownsRow_nil _ _ _ _, hcc⟩
    · exact Divide_good w va vb a b hva hvb ht hc hz
  · refine (Divide_bad w va vb a b hva hvb hc).mono ?_
    rintro e w' ⟨rfl, hcc⟩
    unfold divF
    rw [if_neg hc]
    exact ⟨_, rfl, World.ownsRow_nil _ _ _ _, hcc⟩
theorem rDivide_any (w : World) (va vb : Value) (a b : Bs) (hva : Reads w va a) (hvb : Reads w vb b) :
    Calls Tryd.prog 14 #[va, vb] w fun e w' => ∃ u, e = .returned (.tuple #[u, .int .i64 (divF a b).2]) ∧
      w'.ownsRow w.heap.size 5 1 u (divF a b).1.length ((divF a b).1.map eb) ∧ Chg [] w w' := by
  by_cases hc : codeM a b = 0
  · exact rDivide_good w va vb a b hva hvb hc
  · refine (rDivide_bad w va vb a b hva hvb hc).mono ?_
    rintro e w' ⟨rfl, hcc⟩
    unfold divF
    rw [if_neg hc]
    exact ⟨_, rfl, World.ownsRow_nil _ _ _ _, hcc⟩

end Go.Proofs.YtmklkfogddppmaaDoor

/- The examples of layer 4 that each statement calls. -/
namespace Go.Proofs.YtmklkfogddppmaaDoor
open Go.RowKit Go.Shelf
set_option linter.unusedVariables false
set_option linter.unusedSimpArgs false

/-- a row of bytes just built -/
theorem Reads.lit (w : World) (xs : Bs) {cs : Array Value} {e : TypeId} {n : Nat} (hc : cs = (xs.map eb).toArray) (hn : xs.length = n) (hl : n ≤ 1000000) : Reads (w.alloc (.cells cs e)) (.slice (some ⟨w.heap.size, 0, none⟩) n n) xs := by
  subst hc hn
  refine Reads.of_own (e := e) (base := w.heap.size) ?_
  exact ⟨by simp, .inr ⟨w.heap.size, xs.length, _, rfl, Nat.le_refl _, heap_alloc_new w _, Nat.le_refl _, by unfold maxLen; omega, by simp, by simp [List.take_of_length_le]⟩⟩
theorem Reads.litk {w : World} {cs : Array Value} {e : TypeId} {k n : Nat} (xs : Bs) (hk : k = w.heap.size) (hc : cs = (xs.map eb).toArray) (hn : xs.length = n) (hl : n ≤ 1000000) : Reads (w.alloc (.cells cs e)) (.slice (some ⟨k, 0, none⟩) n n) xs := by
  subst hk; exact Reads.lit w xs hc hn hl
theorem Reads.keep1 {w w' : World} {v : Value} {xs : Bs} (h : Reads w v xs) (hc : Chg [] w w') : Reads w' v xs := h.keep hc (by simp)

theorem same3 (w : World) (v u : Value) (xs : Bs) (h : Reads w v xs) (k : Reads w u xs) : Calls Tryd.prog 15 #[v, u] w fun e w' => e = .returned (.bool true) ∧ w = w' := by
  refine (Same_any w v u xs xs h k).mono ?_
  rintro e w' ⟨rfl, rfl⟩
  exact ⟨by simp, rfl⟩

theorem digs_small {d : Nat} (h0 : d ≠ 0) (h : d < 10) : digs d = [d] := by
  rw [digs_pos h0, show d / 10 = 0 from by omega, digs_zero, show d % 10 = d from by omega]
theorem add_ex : addF [1, 44] [0, 60] false = ([1, 92], 2, 0) := by
  have h : sumN [1, 44] [0, 60] false = (false, 15) := by decide +kernel
  have hd : digs 15 = [5, 1] := by rw [digs_pos (by decide), digs_small (by decide) (by decide)]
  unfold addF
  rw [if_pos (by decide +kernel), h]
  unfold finF finS finC finO fldN
  simp only
  rw [hd]
  decide +kernel
theorem div_ex : divF [0, 1, 125] [92] = ([0, 61, 45], 0) := by
  have h1 : rv [0, 1, 125] = 17 := by decide +kernel
  have h2 : rv [92] = 5 := by decide +kernel
  have hd3 : digs 3 = [3] := digs_small (by decide) (by decide)
  have hd2 : digs 2 = [2] := digs_small (by decide) (by decide)
  unfold divF
  rw [if_pos (by decide +kernel), h1, h2, if_neg (by decide), if_neg (by decide +kernel)]
  unfold fldN
  rw [show 17 / 5 = 3 from rfl, show 17 % 5 = 2 from rfl, hd3, hd2]
  decide +kernel

theorem add_lit (W : World) (va vb : Value) (h1 : Reads W va [1, 44]) (h2 : Reads W vb [0, 60]) (h3 : Tab W) : Calls Tryd.prog 21 #[va, vb] W fun e w' => ∃ u, e = .returned (.tuple #[u, .int .i64 2, .int .i64 0]) ∧ w'.ownsRow W.heap.size 5 1 u 2 (([1, 92] : Bs).map eb) ∧ Chg [] W w' := by
  have h := Add_any W va vb [1, 44] [0, 60] h1 h2 h3
  rw [add_ex] at h
  exact h
theorem div_lit (W : World) (va vb : Value) (h1 : Reads W va [0, 1, 125]) (h2 : Reads W vb [92]) (h3 : Tab W) : Calls Tryd.prog 13 #[va, vb] W fun e w' => ∃ u, e = .returned (.tuple #[u, .int .i64 0]) ∧ w'.ownsRow W.heap.size 5 1 u 3 (([0, 61, 45] : Bs).map eb) ∧ Chg [] W w' := by
  have h := Divide_any W va vb [0, 1, 125] [92] h1 h2 h3
  rw [div_ex] at h
  exact h

set_option maxRecDepth 100000 in
set_option maxHeartbeats 1000000 in
theorem works_yes (w : World) (ht : Tab w) : Calls Tryd.prog 16 #[] w fun e w' => e = .returned (.bool true) ∧ Chg [] w w' := by
  have A := hid add_lit
  have D := hid div_lit
  have HT := hid ht
  clear ht
  go_enter Tryd.func16, Tryd.ntmps16
  go_wp2_with (fail)
  go_at_call 21
  refine Calls.mono (A.out _ _ _ ((Reads.litk [1, 44] (by first | rfl | simp) rfl rfl (by decide)).keep1 (Chg.alloc _ _ _)) (Reads.litk [0, 60] (by first | rfl | simp) rfl rfl (by decide)) ((HT.out.alloc _).alloc _)) ?_
  rintro e w2 ⟨u1, rfl, hO, hc⟩
  have HU1 := hid (Reads.of_own (xs := [1, 92]) hO)
  have hc1 := ((Chg.alloc [] w (.cells #[.int .u8 1, .int .u8 44] 5)).trans (Chg.alloc [] _ (.cells #[.int .u8 0, .int .u8 60] 5))).trans hc
  have HT2 := hid (HT.out.keep hc1)
  clear hO hc HT A
  go_wp2_with (fail)
  go_at_call 13
  refine Calls.mono (D.out _ _ _ ((Reads.litk [0, 1, 125] (by first | rfl | simp) rfl rfl (by decide)).keep1 (Chg.alloc _ _ _)) (Reads.litk [92] (by first | rfl | simp) rfl rfl (by decide)) ((HT2.out.alloc _).alloc _)) ?_
  rintro e w3 ⟨u2, rfl, hO, hc⟩
  have HU2 := hid (Reads.of_own (xs := [0, 61, 45]) hO)
  have hc2 := ((Chg.alloc [] w2 (.cells #[.int .u8 0, .int .u8 1, .int .u8 125] 5)).trans (Chg.alloc [] _ (.cells #[.int .u8 92] 5))).trans hc
  have HU1' := hid (HU1.out.keep1 hc2)
  have hc3 := hc1.trans hc2
  clear hO hc HT2 D HU1 hc1 hc2
  go_wp2_with (fail)
  go_at_call 15
  refine Calls.mono (same3 _ _ _ [1, 92] (HU1'.out.keep1 (Chg.alloc _ _ _)) (Reads.litk [1, 92] (by first | rfl | simp) rfl rfl (by decide))) ?_
  rintro e w4 ⟨rfl, rfl⟩
  go_wp2_with (fail)
  go_at_call 15
  refine Calls.mono (same3 _ _ _ [0, 61, 45] ((HU2.out.keep1 (Chg.alloc _ _ _)).keep1 (Chg.alloc _ _ _)) (Reads.litk [0, 61, 45] (by first | rfl | simp) rfl rfl (by decide))) ?_
  rintro e w4 ⟨rfl, rfl⟩
  go_wp2_with (fail)
  go_returns
  exact ⟨rfl, (hc3.trans (Chg.alloc _ _ _)).trans (Chg.alloc _ _ _)⟩

end Go.Proofs.YtmklkfogddppmaaDoor
