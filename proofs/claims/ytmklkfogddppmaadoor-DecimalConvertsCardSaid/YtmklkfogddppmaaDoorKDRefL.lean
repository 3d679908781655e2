/- Shift of the reference of layer 4. -/
import Derived.Test.YtmklkfogddppmaaDoorKDWorks
import Derived.Test.YtmklkfogddppmaaDoorKDShiftR
namespace Go.Proofs.YtmklkfogddppmaaDoor
open Go.RowKit Go.Shelf
set_option linter.unusedVariables false
set_option linter.unusedSimpArgs false

set_option maxHeartbeats 1000000 in
theorem rShift_bad (w : World) (p : Option Addr) (L ca : Nat) (n round : Int) (hb : (okSize L && decide (-32 ≤ n) && decide (n ≤ 31)) = false) :
    Calls Tryd.prog 33 #[.slice p L ca, .int .i64 n, .int .i64 round] w fun e w' => e = .returned (.tuple #[.slice none 0 0, .int .i64 0, .int .i64 6]) ∧ Chg [] w w' := by
  cases hs : okSize (L : Int)
  · clear hb
    go_enter Tryd.func33, Tryd.ntmps33
    go_wp2_with (go_at_call 55; refine (r4size_any _ _).mono ?_; rintro e w2 ⟨rfl, rfl⟩; rw [hs])
    go_returns
    exact ⟨rfl, Chg.refl _ _⟩
  · by_cases h1 : n < -32
    · clear hb
      go_enter Tryd.func33, Tryd.ntmps33
      go_wp2_with (go_at_call 55; refine (r4size_any _ _).mono ?_; rintro e w2 ⟨rfl, rfl⟩; rw [hs])
      go_returns
      exact ⟨rfl, Chg.refl _ _⟩
    · have h2 : 31 < n := by rw [hs, decide_eq_true (by omega)] at hb; simp at hb; omega
      clear hb
      go_enter Tryd.func33, Tryd.ntmps33
      go_wp2_with (go_at_call 55; refine (r4size_any _ _).mono ?_; rintro e w2 ⟨rfl, rfl⟩; rw [hs])
      go_returns
      exact ⟨rfl, Chg.refl _ _⟩

set_option maxHeartbeats 1000000 in
theorem rShift_data (w : World) (va : Value) (a : Bs) (n round : Int) (hva : Reads w va a) (hs : okSize a.length = true) (h1 : ¬ n < -32) (h2 : ¬ 31 < n) (hb : (fok a && decide (0 ≤ round) && decide (round ≤ 9)) = false) :
    Calls Tryd.prog 33 #[va, .int .i64 n, .int .i64 round] w fun e w' => e = .returned (.tuple #[.slice none 0 0, .int .i64 0, .int .i64 7]) ∧ Chg [] w w' := by
  have R := Of_any w va a hva
  obtain ⟨p, ca, rfl⟩ := hva.shape (L := a.length) rfl
  clear hva
  cases hf : fok a
  · rw [hf] at R
    clear hb
    go_enter Tryd.func33, Tryd.ntmps33
    go_wp2_with (first | (go_at_call 55; refine (r4size_any _ _).mono ?_; rintro e w2 ⟨rfl, rfl⟩; rw [hs]) | (go_at_call 56; refine R.mono ?_; rintro e w3 ⟨u, rfl, hd, hc⟩; obtain ⟨ua, uL, uc, rfl, -, -, -⟩ := hd.shape; clear hd))
    go_returns
    exact ⟨rfl, hc.trans (Chg.alloc _ _ _)⟩
  · rw [hf] at R
    by_cases h3 : round < 0
    · clear hb
      go_enter Tryd.func33, Tryd.ntmps33
      go_wp2_with (first | (go_at_call 55; refine (r4size_any _ _).mono ?_; rintro e w2 ⟨rfl, rfl⟩; rw [hs]) | (go_at_call 56; refine R.mono ?_; rintro e w3 ⟨u, rfl, hd, hc⟩; obtain ⟨ua, uL, uc, rfl, -, -, -⟩ := hd.shape; clear hd))
      go_returns
      exact ⟨rfl, hc.trans (Chg.alloc _ _ _)⟩
    · have h4 : 9 < round := by rw [hf, decide_eq_true (by omega)] at hb; simp at hb; omega
      clear hb
      go_enter Tryd.func33, Tryd.ntmps33
      go_wp2_with (first | (go_at_call 55; refine (r4size_any _ _).mono ?_; rintro e w2 ⟨rfl, rfl⟩; rw [hs]) | (go_at_call 56; refine R.mono ?_; rintro e w3 ⟨u, rfl, hd, hc⟩; obtain ⟨ua, uL, uc, rfl, -, -, -⟩ := hd.shape; clear hd))
      go_returns
      exact ⟨rfl, hc.trans (Chg.alloc _ _ _)⟩

theorem digs_shift (v k : Nat) (h : v ≠ 0) : digs (v * 10 ^ (k + 1)) = 0 :: digs (v * 10 ^ k) := by
  have hp : 0 < 10 ^ k := Nat.pow_pos (by decide)
  have h1 : v * 10 ^ (k + 1) = v * 10 ^ k * 10 := by rw [Nat.pow_succ, Nat.mul_assoc]
  have h2 : 0 < v * 10 ^ k := Nat.mul_pos (by omega) hp
  rw [h1, digs_pos (by omega), Nat.mul_div_cancel _ (by decide), Nat.mul_mod_left]

set_option maxRecDepth 100000 in
set_option maxHeartbeats 2000000 in
theorem rShift_left (w : World) (va : Value) (a : Bs) (n : Nat) (round : Int) (hva : Reads w va a) (hs : okSize a.length = true) (hn : n ≤ 31) (hf : fok a = true) (hr1 : 0 ≤ round) (hr2 : round ≤ 9) :
    Calls Tryd.prog 33 #[va, .int .i64 n, .int .i64 round] w fun e w' => ∃ u, e = .returned (.tuple #[u, .int .i64 (finC (rn a) (rv a * 10 ^ n) a.length), .int .i64 (finO (rv a * 10 ^ n) a.length)]) ∧
      w'.ownsRow w.heap.size 5 1 u a.length ((finS (rn a) (rv a * 10 ^ n) a.length).map eb) ∧ Chg [] w w' := by
  have R := Of_any w va a hva
  obtain ⟨p, ca, rfl⟩ := hva.shape (L := a.length) rfl
  have hlt := rv_lt a
  rw [hf] at R
  have hN : 1 ≤ a.length ∧ a.length ≤ 16 := by unfold okSize at hs; simp at hs; omega
  clear hva hf
  have e1 : ¬ (n : Int) < -32 := by omega
  have e2 : ¬ (31 : Int) < (n : Int) := by omega
  have e3 : ¬ round < 0 := by omega
  have e4 : ¬ (9 : Int) < round := by omega
  have e5 : ¬ (n : Int) < 0 := by omega
  generalize a.length = N at *
  generalize rn a = an at *
  generalize rv a = v at *
  have HB : Hid (∀ k, k ≤ n → v * 10 ^ k < 10 ^ 62) := hid (fun k hk => by
    have h1 : v * 10 ^ k < 10 ^ 31 * 10 ^ k := Nat.mul_lt_mul_of_pos_right hlt (Nat.pow_pos (by decide))
    rw [← Nat.pow_add] at h1
    exact Nat.lt_of_lt_of_le h1 (Nat.pow_le_pow_right (by decide) (by omega)))
  have HSH := hid (fun k => digs_shift v k)
  have RS := hid (fun W u h => result_any W an (v * 10 ^ n) u N h hN.1 hN.2)
  go_enter Tryd.func33, Tryd.ntmps33
  go_upto_region 6 with (first | (go_at_call 55; refine (r4size_any _ _).mono ?_; rintro e w2 ⟨rfl, rfl⟩; rw [hs]) | (go_at_call 56; refine R.mono ?_; rintro e w3 ⟨u, rfl, hd, hc⟩; have HD := hid hd; obtain ⟨ua, uL, uc, rfl, -, -, -⟩ := hd.shape; clear hd))
  have HX := hid (heap_alloc_new w3 (.cells #[.bool an, .slice ua uL uc] 54))
  have hc1 := Chg.alloc [] w3 (.cells #[.bool an, .slice ua uL uc] 54)
  have hc2 := hc.trans hc1
  have HD1 := hid (HD.out.keep hc1)
  have hw3 := hc.size
  clear R hc hc1 HD
  generalize w3.alloc (.cells #[.bool an, .slice ua uL uc] 54) = W1 at *
  go_wp2_with (fail)
  go_loopw [11] (fun i wr => ∃ (k : Nat) (u : Value), i = .int .i64 k ∧ k ≤ n ∧ Hid (wr.heap[w3.heap.size]? = some (.cells #[.bool an, u] 54 (0, 0))) ∧ Hid (Dg wr u (v * 10 ^ k)) ∧ Chg [] w wr) (fun i _ => n - (intOf i).toNat)
  case atStart => exact ⟨0, _, rfl, by omega, HX, hid (by rw [Nat.pow_zero, Nat.mul_one]; exact HD1.out), hc2⟩
  case round =>
    clear HX HD1 hc2
    obtain ⟨k, u, rfl, hk, HX, HD, hc⟩ := hrel
    obtain ⟨ya, yL, yc, rfl, y1, y2, hyL⟩ := HD.out.shape
    have hyL2 : yL ≤ 62 := by rw [← hyL]; exact digs_len_le _ 62 (HB.out k hk)
    have h0 := digs_len0 (v * 10 ^ k)
    rw [hyL] at h0
    have HM1 := hid (show ((digs (v * 10 ^ k)).map en).length = yL from by rw [List.length_map, hyL])
    obtain ⟨c0, c1⟩ := two_cells HX.out
    have hsz := lt_of_block HX.out
    clear hyL
    by_cases hend : k = n ∨ v = 0
    · have HE := hid (show v * 10 ^ k = v * 10 ^ n from by rcases hend with rfl | rfl <;> simp)
      have hr := RS.out wr (.slice ya yL yc) (by rw [← HE.out]; exact HD.out)
      by_cases hkn : (k : Int) < (n : Int)
      · have hyz : ¬ (0 : Int) < (yL : Int) := by
          rcases hend with rfl | rfl
          · omega
          · have := h0.2 (by simp); omega
        clear hend h0
        go_wp2_with (go_at_call 52; refine hr.mono ?_; rintro e w6 ⟨u6, rfl, hO, hc6⟩)
        go_returns
        exact ⟨u6, rfl, own_base hO hc.size, hc.trans hc6⟩
      · clear hend h0
        go_wp2_with (go_at_call 52; refine hr.mono ?_; rintro e w6 ⟨u6, rfl, hO, hc6⟩)
        go_returns
        exact ⟨u6, rfl, own_base hO hc.size, hc.trans hc6⟩
    · have hkn : (k : Int) < (n : Int) := by omega
      have hv0 : v ≠ 0 := by omega
      have hyz : (0 : Int) < (yL : Int) := by
        have hp : 0 < v * 10 ^ k := Nat.mul_pos (by omega) (Nat.pow_pos (by decide))
        have : yL ≠ 0 := fun e => by have := h0.1 e; omega
        omega
      have HS := hid (HSH.out k hv0)
      clear hend h0 hv0
      generalize v * 10 ^ k = z at *
      go_wp2_with (at_builtin; refine appendV rfl _ _ 52 rfl wr.heap.size 3 8 (.int .i64 0) Tryd.underlying52 info_int rfl (by decide) HM1.out (HD.out.keep (Chg.alloc _ _ _)) (cells_one _) (own_lit (m := 1) [.int .i64 0] rfl (by decide)) rfl rfl (by omega) (by simp) ?_; intro v' w' ho' hc'; have HOW := hid ho'; obtain ⟨fa, fc, rfl, -⟩ := own_slice ho'; have hcx := (Chg.alloc [] wr (.cells #[.int .i64 0] 3)).then hc' (by simp [own, Value.ownBlock]); have HX2 := hid (hcx.heap HX.out (by simp)); obtain ⟨e6, e7⟩ := two_cells HX2.out; have e8 := frozen_of_row _ _ 1 _ _ HX2.out; clear ho')
      go_roundw
      case rel =>
        have hr2 : ReadsV w' _ ((0 :: digs z).map en) := ReadsV.ofn (l := 0 :: digs z) (by simpa [en] using HOW.out) (by have := HM1.out; simp at this ⊢; omega)
        rw [← HS.out] at hr2
        have hd2 : Dg w' _ (v * 10 ^ (k + 1)) := hr2
        have hc8 := Chg.setCell (L := [w3.heap.size]) w' (p := ⟨w3.heap.size, 1, none⟩) (.inl (by simp)) (.slice fa (1 + yL) fc)
        refine ⟨k + 1, _, by go_num, by omega, hid (heap_setCell_same w' w3.heap.size 1 _ _ _ HX2.out), hid (hd2.keepN HX2.out (fun _ _ h => by cases h) hc8), (hc.trans hcx).then hc8 (by simp; omega)⟩
      case measure => simp [intOf]; omega

end Go.Proofs.YtmklkfogddppmaaDoor

/- Shift of the reference of layer 4, to the right; Shift as a whole. -/
namespace Go.Proofs.YtmklkfogddppmaaDoor
open Go.RowKit Go.Shelf
set_option linter.unusedVariables false
set_option linter.unusedSimpArgs false

theorem drop_take_succ (l : List Nat) (s t : Nat) (h : s + t < l.length) : (l.drop s).take (t + 1) = (l.drop s).take t ++ [l.getD (s + t) 0] := by
  rw [List.take_succ_eq_append_getElem (by rw [List.length_drop]; omega), List.getElem_drop, List.getD_eq_getElem?_getD, List.getElem?_eq_getElem h]; rfl

theorem Dg.one (w : World) : Dg (w.alloc (.cells #[.int .i64 1] 3)) (.slice (some ⟨w.heap.size, 0, none⟩) 1 1) 1 := by
  unfold Dg
  rw [digs_pos (by decide), show 1 / 10 = 0 from rfl, digs_zero]
  exact ReadsV.ofn (l := [1]) (own_lit (m := 1) [.int .i64 1] rfl (by decide)) rfl

set_option maxRecDepth 100000 in
set_option maxHeartbeats 2000000 in
theorem rShift_right (w : World) (va : Value) (a : Bs) (n : Int) (m : Nat) (round : Int) (hva : Reads w va a) (hs : okSize a.length = true) (hn1 : n ≤ -(m : Int) - 1) (hn2 : -(m : Int) - 1 ≤ n) (hm : m ≤ 31) (hf : fok a = true) (hr1 : 0 ≤ round) (hr2 : round ≤ 9)
    (V : Nat) (hV : V = rv a / 10 ^ m / 10 + (if 10 ≤ ((rv a / 10 ^ m % 10 : Nat) : Int) + round then 1 else 0)) :
    Calls Tryd.prog 33 #[va, .int .i64 n, .int .i64 round] w fun e w' => ∃ u, e = .returned (.tuple #[u, .int .i64 (finC (rn a) V a.length), .int .i64 (finO V a.length)]) ∧
      w'.ownsRow w.heap.size 5 1 u a.length ((finS (rn a) V a.length).map eb) ∧ Chg [] w w' := by
  have R := Of_any w va a hva
  obtain ⟨p, ca, rfl⟩ := hva.shape (L := a.length) rfl
  have hlt := rv_lt a
  rw [hf] at R
  have hN : 1 ≤ a.length ∧ a.length ≤ 16 := by unfold okSize at hs; simp at hs; omega
  have HV := hid hV
  clear hva hf hV
  have e1 : ¬ n < -32 := by omega
  have e2 : ¬ (31 : Int) < n := by omega
  have e3 : ¬ round < 0 := by omega
  have e4 : ¬ (9 : Int) < round := by omega
  have e5 : n < 0 := by omega
  generalize a.length = N at *
  generalize rn a = an at *
  generalize rv a = v at *
  have RS := hid (fun W u h => result_any W an V u N h hN.1 hN.2)
  have HGD := hid (digs_getD v)
  have HDR := hid (digs_drop_eq v (m + 1))
  have HDT := hid (drop_take_succ (digs v) (m + 1))
  have HVB := hid (show v / 10 ^ (m + 1) < 10 ^ 31 from Nat.lt_of_le_of_lt (Nat.div_le_self _ _) hlt)
  have HVQ := hid (show v / 10 ^ m / 10 = v / 10 ^ (m + 1) from by rw [Nat.div_div_eq_div_mul, Nat.pow_succ])
  have hdl := digs_len_le v 31 hlt
  go_enter Tryd.func33, Tryd.ntmps33
  go_upto_region 6 with (first | (go_at_call 55; refine (r4size_any _ _).mono ?_; rintro e w2 ⟨rfl, rfl⟩; rw [hs]) | (go_at_call 56; refine R.mono ?_; rintro e w3 ⟨u, rfl, hd, hc⟩; have HD := hid hd; obtain ⟨ua, uL, uc, rfl, q1, q2, huL⟩ := hd.shape; clear hd))
  have HX := hid (heap_alloc_new w3 (.cells #[.bool an, .slice ua uL uc] 54))
  have hc1 := Chg.alloc [] w3 (.cells #[.bool an, .slice ua uL uc] 54)
  have hc2 := hc.trans hc1
  have HD1 := hid (HD.out.keep hc1)
  have hw3 := hc.size
  rw [huL] at hdl HDT
  have HUL := hid huL
  clear R hc hc1 HD huL
  generalize w3.alloc (.cells #[.bool an, .slice ua uL uc] 54) = W1 at *
  have hX1 := lt_of_block HX.out
  go_wp2_with (fail)
  go_loopw [11] (fun i wr => i = .int .i64 0 ∧ wr = W1) (fun i _ => 0)
  case atStart => exact ⟨rfl, rfl⟩
  case round =>
    obtain ⟨rfl, rfl⟩ := hrel
    have hn0 : ¬ (0 : Int) < n := by omega
    obtain ⟨c0, c1⟩ := two_cells HX.out
    have hdg := digit_any wr _ (digs v) m HD1.out
    rw [HGD.out m, show ((m : Nat) : Int) = -n - 1 from by omega] at hdg
    have hf10 : v / 10 ^ m % 10 < 10 := Nat.mod_lt _ (by decide)
    have HV2 := hid (show V = v / 10 ^ (m + 1) + (if 10 ≤ ((v / 10 ^ m % 10 : Nat) : Int) + round then 1 else 0) from by rw [← HVQ.out]; exact HV.out)
    clear HV HVQ
    generalize v / 10 ^ m % 10 = fd at *
    go_wp2_with (go_at_call 60; refine hdg.mono ?_; rintro e w4 ⟨rfl, rfl⟩)
    obtain ⟨wo, rfl⟩ : ∃ wo : World, wo = wr := ⟨_, rfl⟩
    have hwo : w.heap.size ≤ wo.heap.size := hc2.size
    clear hdg c0 c1
    go_loopw [13, 14] (fun r i wr => ∃ (t : Nat) (j : Int), i = .int .i64 j ∧ j ≤ (m : Int) + 1 + t ∧ (m : Int) + 1 + t ≤ j ∧ (t = 0 ∨ m + 1 + t ≤ uL) ∧ wr.ownsRow wo.heap.size 3 1 r t ((((digs v).drop (m + 1)).take t).map en) ∧ Hid (wr.heap[w3.heap.size]? = some (.cells #[.bool an, .slice ua uL uc] 54 (0, 0))) ∧ Chg [] wo wr) (fun _ i _ => uL - (intOf i).toNat)
    case atStart => exact ⟨0, _, rfl, by omega, by omega, .inl rfl, World.ownsRow_nil _ _ _ _, HX, Chg.refl _ _⟩
    case round =>
      obtain ⟨t, j, rfl, hj1, hj2, ht, hown, HX2, hci⟩ := hrel
      obtain ⟨c0, c1⟩ := two_cells HX2.out
      have hsz := hci.size
      have HD2 := hid (HD1.out.keep hci)
      by_cases hlt2 : m + 1 + t < uL
      · have hjl : j < (uL : Int) := by omega
        obtain ⟨s, rfl⟩ := Int.eq_ofNat_of_zero_le (show 0 ≤ j by omega)
        obtain rfl : s = m + 1 + t := by omega
        obtain ⟨bb, off, rfl, hcell⟩ := HD2.out.at (m + 1 + t) hlt2
        have HT := hid (HDT.out t hlt2)
        generalize (digs v).getD (m + 1 + t) 0 = x at *
        have hnb := hid (show ∀ k ∈ own _, k ≠ w3.heap.size from fun k hk e => by have := own_ge hown k hk; omega)
        go_wp2_with (at_builtin; refine appendN rfl _ _ 52 rfl wo.heap.size 3 8 (.int .i64 0) Tryd.underlying52 info_int rfl (by decide) 1 [_] rfl hown rfl rfl (by simp [Value.oneCell']) (by omega) (by omega) ?_; intro v' w' ho' hc')
        go_roundw
        case rel =>
          refine ⟨t + 1, _, rfl, by omega, by omega, .inr (by omega), ?_, hid (hc'.heap HX2.out (fun e => hnb.out _ e rfl)), chg_own hci hown (by omega) hc'⟩
          rw [show [Value.int .i64 (x : Int)] = [x].map en from rfl, ← List.map_append, ← HT.out] at ho'
          exact ho'
        case measure => simp [intOf]; omega
      · have hjl : ¬ j < (uL : Int) := by omega
        have hfull : (digs v).drop (m + 1) = ((digs v).drop (m + 1)).take t := by
          rw [List.take_of_length_le]
          rw [List.length_drop, HUL.out]; omega
        have hlen : (((digs v).drop (m + 1)).take t).length = t := by
          rw [List.length_take, List.length_drop, HUL.out]
          rcases ht with rfl | h <;> omega
        rw [← hfull] at hlen hown
        rw [HDR.out] at hlen hown
        have hrd : Dg wr _ (v / 10 ^ (m + 1)) := ReadsV.ofn hown hlen
        have HRD := hid hrd
        have hcw := hc2.trans hci
        clear hfull hlen hown hrd ht
        by_cases hrr : 10 ≤ (fd : Int) + round
        · have hVe : v / 10 ^ (m + 1) + 1 = V := by rw [HV2.out, if_pos hrr]
          have HVE := hid hVe
          have HP := hid (fun W u1 u2 (h1 : Dg W u1 (v / 10 ^ (m + 1))) (h2 : Dg W u2 1) => rplus_any W u1 u2 _ 1 h1 h2 (Nat.lt_trans HVB.out (by decide)) (by decide))
          rw [hVe] at HP
          clear hVe
          go_wp2_with (first
            | (go_at_call 61; refine (HP.out _ _ _ (HRD.out.keep (Chg.alloc _ _ _)) (Dg.one _)).mono ?_; rintro e w4 ⟨u4, rfl, hd4, hc4⟩; have HD4 := hid hd4; have hc5 := (Chg.alloc [] wr (.cells #[.int .i64 1] 3)).trans hc4)
            | (go_at_call 62; refine (trim_any w4 _ (digs V) HD4.out (digs_lt V)).mono ?_; rintro e w5 ⟨u5, rfl, hd5, rfl⟩; rw [val_digs] at hd5; have HD5 := hid hd5; obtain ⟨ya, yL, yc, rfl, -, -, -⟩ := hd5.shape; have HX4 := hid (hc5.heap HX2.out (by simp)); obtain ⟨e6, e7⟩ := two_cells HX4.out; have e8 := frozen_of_row _ _ 1 _ _ HX4.out; clear hd5)
            | (go_at_call 52; refine (RS.out _ _ (HD5.out.keepN HX4.out (fun _ _ h => by cases h) (Chg.setCell (L := [w3.heap.size]) _ (p := ⟨w3.heap.size, 1, none⟩) (.inl (by simp)) (.slice ya yL yc)))).mono ?_; rintro e w6 ⟨u6, rfl, hO, hc6⟩))
          go_returns
          have hc7 := (hcw.trans hc5).then (Chg.setCell (L := [w3.heap.size]) _ (p := ⟨w3.heap.size, 1, none⟩) (.inl (by simp)) (.slice ya yL yc)) (by simp; omega)
          exact ⟨u6, rfl, own_base hO hc7.size, hc7.trans hc6⟩
        · have hVe : v / 10 ^ (m + 1) = V := by rw [HV2.out, if_neg hrr]; rfl
          rw [hVe] at HRD
          clear hVe
          go_wp2_with (first
            | (go_at_call 62; refine (trim_any wr _ (digs V) HRD.out (digs_lt V)).mono ?_; rintro e w5 ⟨u5, rfl, hd5, rfl⟩; rw [val_digs] at hd5; have HD5 := hid hd5; obtain ⟨ya, yL, yc, rfl, -, -, -⟩ := hd5.shape; have e8 := frozen_of_row _ _ 1 _ _ HX2.out; clear hd5)
            | (go_at_call 52; refine (RS.out _ _ (HD5.out.keepN HX2.out (fun _ _ h => by cases h) (Chg.setCell (L := [w3.heap.size]) _ (p := ⟨w3.heap.size, 1, none⟩) (.inl (by simp)) (.slice ya yL yc)))).mono ?_; rintro e w6 ⟨u6, rfl, hO, hc6⟩))
          go_returns
          have hc7 := hcw.then (Chg.setCell (L := [w3.heap.size]) _ (p := ⟨w3.heap.size, 1, none⟩) (.inl (by simp)) (.slice ya yL yc)) (by simp; omega)
          exact ⟨u6, rfl, own_base hO hc7.size, hc7.trans hc6⟩

theorem rShift_any (w : World) (va : Value) (a : Bs) (n round : Int) (hva : Reads w va a) :
    Calls Tryd.prog 33 #[va, .int .i64 n, .int .i64 round] w fun e w' => ∃ u, e = .returned (.tuple #[u, .int .i64 (shiftF a n round).2.1, .int .i64 (shiftF a n round).2.2]) ∧
      w'.ownsRow w.heap.size 5 1 u (shiftF a n round).1.length ((shiftF a n round).1.map eb) ∧ Chg [] w w' := by
  unfold shiftF
  cases hb : (okSize a.length && decide (-32 ≤ n) && decide (n ≤ 31))
  · obtain ⟨p, ca, rfl⟩ := hva.shape (L := a.length) rfl
    refine (rShift_bad w p a.length ca n round hb).mono ?_
    rintro e w' ⟨rfl, hc⟩
    exact ⟨_, rfl, World.ownsRow_nil _ _ _ _, hc⟩
  · rw [if_pos rfl]
    have hb2 := hb
    simp only [Bool.and_eq_true, decide_eq_true_eq] at hb2
    obtain ⟨⟨hs, h1⟩, h2⟩ := hb2
    cases hd : (fok a && decide (0 ≤ round) && decide (round ≤ 9))
    · refine (rShift_data w va a n round hva hs (by omega) (by omega) hd).mono ?_
      rintro e w' ⟨rfl, hc⟩
      exact ⟨_, rfl, World.ownsRow_nil _ _ _ _, hc⟩
    · rw [if_pos rfl]
      simp only [Bool.and_eq_true, decide_eq_true_eq] at hd
      obtain ⟨⟨hf, h3⟩, h4⟩ := hd
      have hL : ∀ V, (finF (rn a, V) a.length).1.length = a.length := fun V => by simp [finF, finS, fldN, fld_length]
      rw [hL]
      rcases Int.lt_or_le n 0 with hn | hn
      · obtain ⟨m, hm⟩ : ∃ m : Nat, n = -(m : Int) - 1 := ⟨(-n - 1).toNat, by omega⟩
        have hv := shv_right (rv a) n m round hm
        exact rShift_right w va a n m round hva hs (by omega) (by omega) (by omega) hf h3 h4 _ hv
      · obtain ⟨k, rfl⟩ := Int.eq_ofNat_of_zero_le hn
        have hv : shv (rv a) (k : Int) round = rv a * 10 ^ k := by unfold shv; rw [if_pos hn]; rfl
        rw [hv]
        exact rShift_left w va a k round hva hs (by omega) hf h3 h4

end Go.Proofs.YtmklkfogddppmaaDoor
