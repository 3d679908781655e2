/- Decode of the reference of layer 3. -/
import Derived.Test.YtmklkfogddppmaaDoorKNibL
import Derived.Test.YtmklkfogddppmaaDoorKPackH
import Derived.Test.YtmklkfogddppmaaDoorKDecA
import Derived.Test.YtmklkfogddppmaaDoorKAgg
namespace Go.Proofs.YtmklkfogddppmaaDoor
open Go.RowKit
set_option linter.unusedVariables false

def app1 (s : Bs) (c : UInt8) : Bs := (if s = [48] then [] else s) ++ [c]
def strS (s : Bs) (d : Nat) : Bs := app1 s (UInt8.ofNat (48 + d))
def strK (l : List Nat) (k : Nat) : Bs := (l.take k).foldl strS []
theorem strK_zero (l : List Nat) : strK l 0 = [] := by simp [strK]
theorem strK_succ (l : List Nat) (k : Nat) (h : k < l.length) : strK l (k + 1) = strS (strK l k) (l.getD k 0) := by
  unfold strK
  rw [List.take_succ_eq_append_getElem h, List.foldl_append, List.getD_eq_getElem?_getD, List.getElem?_eq_getElem h]
  rfl
theorem strS_len (s : Bs) (d : Nat) : (strS s d).length ≤ s.length + 1 := by
  unfold strS app1; rw [List.length_append]; split <;> simp
theorem strK_len (l : List Nat) : ∀ k, (strK l k).length ≤ k
  | 0 => by rw [strK_zero]; simp
  | k + 1 => by
    have ih := strK_len l k
    by_cases h : k < l.length
    · rw [strK_succ l k h]; have := strS_len (strK l k) (l.getD k 0); omega
    · have e : strK l (k + 1) = strK l k := by unfold strK; rw [List.take_of_length_le (by omega), List.take_of_length_le (by omega)]
      rw [e]; omega
theorem ba_app (l : Bs) (c : UInt8) : (⟨l.toArray⟩ : ByteArray) ++ ⟨#[c]⟩ = ⟨(l ++ [c]).toArray⟩ := by
  apply ByteArray.ext; simp [ByteArray.data_append]
theorem strip_zero (d : UInt8) (l : Bs) : strip (48 :: d :: l) = strip (d :: l) := by simp [strip]
theorem strip_other {c : UInt8} (d : UInt8) (l : Bs) (h : c ≠ 48) : strip (c :: d :: l) = c :: d :: l := by simp [strip, h]
theorem app1_long (a b c : UInt8) (l : Bs) : app1 (a :: b :: l) c = a :: b :: (l ++ [c]) := by simp [app1]
theorem strip_snoc : ∀ (t : Bs) (c : UInt8), strip (t ++ [c]) = app1 (strip t) c
  | [], c => by simp [strip, app1]
  | [a], c => by
    show strip [a, c] = app1 [a] c
    by_cases h : a = 48
    · subst h; rfl
    · rw [strip_other _ _ h]; simp [app1, h]
  | a :: b :: l, c => by
    have ih := strip_snoc (b :: l) c
    by_cases h : a = 48
    · subst h
      show strip (48 :: b :: (l ++ [c])) = _
      rw [strip_zero, strip_zero]; exact ih
    · show strip (a :: b :: (l ++ [c])) = _
      rw [strip_other _ _ h, strip_other _ _ h, app1_long]
theorem foldl_strip (l : List Nat) : ∀ (k : Nat), (l.take k).foldl strS [] = strip ((l.take k).map fun d => UInt8.ofNat (48 + d))
  | 0 => by simp [strip]
  | k + 1 => by
    by_cases h : k < l.length
    · rw [List.take_succ_eq_append_getElem h, List.foldl_append, foldl_strip l k, List.map_append, List.map_singleton, strip_snoc]
      rfl
    · have := foldl_strip l k
      rw [List.take_of_length_le (by omega)] at this ⊢
      exact this
theorem strK_full (b : Bs) (D : Nat) (hD : 2 * b.length = D) : strK (nibL b) (D - 1) = strip ((nibr b).tail.reverse.map fun d => UInt8.ofNat (48 + d)) := by
  unfold strK
  rw [foldl_strip, nibL_init b D hD]

theorem nibL_lt (b : Bs) (i : Nat) : (nibL b).getD i 0 < 16 := by
  rw [List.getD_eq_getElem?_getD]
  rcases Nat.lt_or_ge i (nibL b).length with hi | hi
  · rw [List.getElem?_eq_getElem hi]
    have h : (nibL b)[i] ∈ nibL b := List.getElem_mem hi
    have h2 : (nibL b)[i] ∈ nibr b := by have h3 : ∀ q, q ∈ nibL b → q ∈ nibr b := fun q hq => by rwa [nibL_rev, List.mem_reverse] at hq
                                         exact h3 _ h
    exact nibr_lt b _ h2
  · rw [List.getElem?_eq_none hi]; decide
theorem mem_tail_iff (b : Bs) (D : Nat) (hD : 2 * b.length = D) (q : Nat) : q ∈ (nibr b).tail ↔ ∃ j, j < D - 1 ∧ (nibL b).getD j 0 = q := by
  rw [← List.mem_reverse, ← nibL_init b D hD]
  have hl := nibL_length b
  constructor
  · intro h
    obtain ⟨j, hj, rfl⟩ := List.getElem_of_mem h
    rw [List.length_take] at hj
    exact ⟨j, by omega, by rw [List.getElem_take, List.getD_eq_getElem?_getD, List.getElem?_eq_getElem (by omega)]; rfl⟩
  · rintro ⟨j, hj, rfl⟩
    rw [List.getD_eq_getElem?_getD, List.getElem?_eq_getElem (by omega)]
    have : j < ((nibL b).take (D - 1)).length := by rw [List.length_take]; omega
    have h2 := List.getElem_mem this
    rwa [List.getElem_take] at h2
theorem decS_badAny (b : Bs) (D : Nat) (hD : 2 * b.length = D) (j : Nat) (hj : j < D - 1) (h : 9 < (nibL b).getD j 0) : decS b = ((false, []), false) := by
  have hm := (mem_tail_iff b D hD _).2 ⟨j, hj, rfl⟩
  rw [decS_def, if_neg]
  intro hh
  simp only [Bool.and_eq_true, List.all_eq_true, decide_eq_true_eq] at hh
  have := hh.2 _ hm
  omega
theorem decS_goodL (b : Bs) (D : Nat) (hD : 2 * b.length = D) (h1 : okSize b.length = true) (h2 : 10 ≤ (nibr b).getD 0 0) (h : ∀ j, j < D - 1 → (nibL b).getD j 0 ≤ 9) :
    decS b = (((nibr b).getD 0 0 == 11 || (nibr b).getD 0 0 == 13, strK (nibL b) (D - 1)), true) := by
  rw [strK_full b D hD]
  rw [← txtK_full (2 * b.length - 1) (nibr b) (by rw [nibr_length]; unfold okSize at h1; simp at h1; omega)]
  exact decS_good b h1 h2 fun q hq => by
    obtain ⟨j, hj, rfl⟩ := (mem_tail_iff b D hD q).1 hq
    exact h j hj
theorem lit_of {w : World} {x : Nat} (hx : x ≤ 9) : Reads (w.alloc (.cells #[.int .u8 (48 + (x : Int))] 5)) (.slice (some ⟨w.heap.size, 0, none⟩) 1 1) [UInt8.ofNat (48 + x)] := by
  refine ⟨some ⟨w.heap.size, 0, none⟩, 1, rfl, Nat.le_refl _, by unfold maxLen; omega, (fun h => by cases h), fun y hy => ?_⟩
  cases hy
  refine ⟨rfl, fun i hi => ?_⟩
  rw [cell_of_row _ _ _ _ _ _ (heap_alloc_new w _)]
  simp at hi
  subst hi
  simp only [eb, List.getElem_cons_zero]
  rw [toNat_ofNat (by omega)]
  rfl

set_option maxHeartbeats 1000000 in
theorem rDecode_low (w : World) (v : Value) (b : Go.Proofs.YtmklkfogddppmaaDoor.Bs) (hv : Reads w v b) (h1 : okSize b.length = true) (hlow : (nibr b).getD 0 0 < 10) :
    Calls Tryd.prog 63 #[v] w fun e w' =>
      e = .returned (.tuple #[.agg #[.bool (decS b).1.1, .string ⟨(decS b).1.2.toArray⟩], .bool (decS b).2]) ∧ Chg [] w w' := by
  obtain ⟨L, hL⟩ : ∃ L, b.length = L := ⟨_, rfl⟩
  have hds := decS_badSign b (nibr b) (List.prefix_refl _) (by rw [nibr_length]; unfold okSize at h1; simp at h1; omega) hlow
  rw [hds]
  rw [hL] at h1
  obtain ⟨q1, q2⟩ : 1 ≤ L ∧ L ≤ 16 := by unfold okSize at h1; simp at h1; omega
  obtain ⟨va, vc, rfl⟩ := hv.shape hL
  obtain ⟨D, hD⟩ : ∃ D, 2 * L = D := ⟨_, rfl⟩
  have hD1 : 2 ≤ D := by omega
  have hD2 : D ≤ 32 := by omega
  have HNN := hid (show (nibL b).length = D from by rw [nibL_length, hL, hD])
  have HNZ := hid (nibL_last b D (by rw [hL]; exact hD) (by omega))
  have HV := hid hv
  have HL := hid hL
  have HD := hid hD
  clear hv hL hD hds
  have HLOW := hid hlow
  clear hlow
  go_enter Tryd.func63, Tryd.ntmps63
  go_wp2_with (first
      | (go_at_call 77; refine (rsize_any _ _).mono ?_; rintro e w2 ⟨rfl, rfl⟩))
  have HB0 := hid (al_new (w := w) (o := .cells #[.bool false, .string ⟨#[]⟩] 70) rfl)
  refine (Digits_any _ _ b L (HV.out.keep (Chg.alloc [] _ _) (by simp)) HL.out (by omega)).mono ?_
  rintro e w2 ⟨u2, rfl, ho, hc2⟩
  have hr := ReadsV.ofn ho (by rw [HNN.out, HD.out])
  have HC2 := hid ((Chg.alloc [] _ _).trans hc2)
  have HB2 := hid (hc2.heap HB0.out (by simp))
  clear ho hc2
  rcases hr.parts HNN.out with ⟨_, h0, _⟩ | ⟨b2, o2, cap2, rfl, _, hm4, hm5, HC2L⟩
  · omega
  have hlast := HC2L.out (D - 1) (by omega)
  rw [HNZ.out] at hlast
  clear hr
  have hlow2 : ((nibr b).getD 0 0 : Int) < 10 := by have := HLOW.out; omega
  generalize (nibr b).getD 0 0 = sg at *
  obtain ⟨s0, s1, s2, s3, s4, s5⟩ := store2 (.bool false) (.string ⟨#[]⟩) HB2.out
  obtain ⟨d0, d1⟩ := two_cells s4.out
  go_wp2_with (fail)
  refine ⟨by simp, ?_⟩
  refine ⟨.tuple #[.agg #[.bool false, .string ⟨([] : Bs).toArray⟩], .bool false], ?_, ?_, ?_⟩
  · simp [results, Tryd.f63, go_sem, d0, d1]
  · rfl
  · exact HC2.out.then s5.out (by simp)

set_option maxRecDepth 100000 in
set_option maxHeartbeats 2000000 in
theorem rDecode_high (w : World) (v : Value) (b : Go.Proofs.YtmklkfogddppmaaDoor.Bs) (hv : Reads w v b) (h1 : okSize b.length = true) (hhigh : 10 ≤ (nibr b).getD 0 0) :
    Calls Tryd.prog 63 #[v] w fun e w' =>
      e = .returned (.tuple #[.agg #[.bool (decS b).1.1, .string ⟨(decS b).1.2.toArray⟩], .bool (decS b).2]) ∧ Chg [] w w' := by
  obtain ⟨L, hL⟩ : ∃ L, b.length = L := ⟨_, rfl⟩
  obtain ⟨D, hD⟩ : ∃ D, 2 * L = D := ⟨_, rfl⟩
  have HBAD := hid (decS_badAny b D (by rw [hL]; exact hD))
  have HGOOD := hid (decS_goodL b D (by rw [hL]; exact hD) h1 hhigh)
  rw [hL] at h1
  obtain ⟨q1, q2⟩ : 1 ≤ L ∧ L ≤ 16 := by unfold okSize at h1; simp at h1; omega
  obtain ⟨va, vc, rfl⟩ := hv.shape hL
  have hD1 : 2 ≤ D := by omega
  have hD2 : D ≤ 32 := by omega
  have HNN := hid (show (nibL b).length = D from by rw [nibL_length, hL, hD])
  have HNZ := hid (nibL_last b D (by rw [hL]; exact hD) (by omega))
  have HV := hid hv
  have HL := hid hL
  have HD := hid hD
  have HRB := hid (nibL_lt b)
  have HST := hid (strK_succ (nibL b))
  have HS0 := hid (strK_zero (nibL b))
  have HKL := hid (strK_len (nibL b))
  rw [HNN.out] at HST
  have hs16 := nibr_lt16 b 0
  clear hv hL hD
  generalize decS b = R at *
  generalize (nibr b).getD 0 0 = sg at *
  generalize strK (nibL b) = K at *
  go_enter Tryd.func63, Tryd.ntmps63
  go_wp2_with (first
      | (go_at_call 77; refine (rsize_any _ _).mono ?_; rintro e w2 ⟨rfl, rfl⟩))
  have HB0 := hid (al_new (w := w) (o := .cells #[.bool false, .string ⟨#[]⟩] 70) rfl)
  refine (Digits_any _ _ b L (HV.out.keep (Chg.alloc [] _ _) (by simp)) HL.out (by omega)).mono ?_
  rintro e w2 ⟨u2, rfl, ho, hc2⟩
  have hr := ReadsV.ofn ho (by rw [HNN.out, HD.out])
  have HC2 := hid ((Chg.alloc [] _ _).trans hc2)
  have HB2 := hid (hc2.heap HB0.out (by simp))
  clear ho hc2
  rcases hr.parts HNN.out with ⟨_, h0, _⟩ | ⟨b2, o2, cap2, rfl, _, hm4, hm5, HC2L⟩
  · omega
  have hlast := HC2L.out (D - 1) (by omega)
  rw [HNZ.out] at hlast
  clear hr
  generalize nibL b = N at *
  have hlow2 : ¬ (sg : Int) < 10 := by omega
  go_wp2_with (fail)
  go_loopw [6, 7] (fun v i wr => ∃ k : Nat, k + 1 ≤ D ∧ i = .int .i64 k ∧ v = .string ⟨(K k).toArray⟩ ∧ Hid (∀ j, j < k → N.getD j 0 ≤ 9) ∧ Chg [] w2 wr) (fun _ i _ => D - (intOf i).toNat)
  case atStart => exact ⟨0, by omega, rfl, by rw [HS0.out], fun j hj => by omega, Chg.refl _ _⟩
  case round =>
    obtain ⟨k, hk, rfl, rfl, hall, hc⟩ := hrel
    have HB := hid (hc.heap HB2.out (by simp))
    by_cases hlt : k + 1 < D
    · have hcl := hc.cell (HC2L.out k (by omega)) (by simp)
      have hx := HRB.out k
      by_cases h9 : 9 < N.getD k 0
      · have HRR := hid (HBAD.out k (by omega) h9)
        generalize N.getD k 0 = x at *
        obtain ⟨s0, s1, s2, s3, s4, s5⟩ := store2 (.bool false) (.string ⟨#[]⟩) HB.out
        obtain ⟨d0, d1⟩ := two_cells s4.out
        go_wp2_with (fail)
        refine ⟨by simp, ?_⟩
        refine ⟨.tuple #[.agg #[.bool false, .string ⟨([] : Bs).toArray⟩], .bool false], ?_, ?_, ?_⟩
        · simp [results, Tryd.f63, go_sem, d0, d1]
        · rw [HRR.out]
        · exact (HC2.out.trans hc).then s5.out (by simp)
      · have HS := hid (HST.out k (by omega))
        have HA2 : Hid (∀ j, j < k + 1 → N.getD j 0 ≤ 9) := fun j hj => by
          rcases Nat.lt_or_ge j k with h | h
          · exact hall.out j h
          · obtain rfl : j = k := by omega
            omega
        generalize N.getD k 0 = x at *
        have hcv := (lit_of (w := wr) (x := x) (by omega)).str (P := Tryd.prog) 22 9 5 Tryd.underlying22 Tryd.underlying5 Tryd.underlying9
        have hkl := HKL.out k
        by_cases hz : K k = [48]
        · have HS1 := hid (show K (k + 1) = [] ++ [UInt8.ofNat (48 + x)] from by rw [HS.out, hz]; rfl)
          go_wp2_with (fail)
          go_roundw
          case rel => exact ⟨k + 1, by omega, by go_num, by rw [HS1.out, ← ba_app, UInt8.ofNat_add]; rfl, HA2, hc.trans (Chg.alloc _ _ _)⟩
          case measure => simp [intOf]; omega
        · have HS1 := hid (show K (k + 1) = K k ++ [UInt8.ofNat (48 + x)] from by rw [HS.out]; unfold strS app1; rw [if_neg hz])
          have hzb : (K k == [48]) = false := beq_eq_false_iff_ne.2 hz
          clear hz
          go_wp2_with (fail)
          go_roundw
          case rel => exact ⟨k + 1, by omega, by go_num, by rw [HS1.out, ← ba_app, UInt8.ofNat_add]; rfl, HA2, hc.trans (Chg.alloc _ _ _)⟩
          case measure => simp [intOf]; omega
    · have HRR := hid (HGOOD.out (fun j hj => hall.out j (by omega)))
      obtain rfl : D = k + 1 := by omega
      by_cases h11 : sg = 11
      · have h11' : ((sg : Int) == 11) = true := beq_iff_eq.2 (by omega)
        obtain ⟨s0, s1, s2, s3, s4, s5⟩ := store2 (.bool true) (.string ⟨(K k).toArray⟩) HB.out
        obtain ⟨d0, d1⟩ := two_cells s4.out
        go_wp2_with (fail)
        refine ⟨by simp, ?_⟩
        refine ⟨.tuple #[.agg #[.bool true, .string ⟨(K k).toArray⟩], .bool true], ?_, ?_, ?_⟩
        · simp [results, Tryd.f63, go_sem, d0, d1]
        · rw [HRR.out]; rw [Nat.add_sub_cancel, h11]; rfl
        · exact (HC2.out.trans hc).then s5.out (by simp)
      · have h11' : ((sg : Int) == 11) = false := beq_eq_false_iff_ne.2 (by omega)
        obtain ⟨s0, s1, s2, s3, s4, s5⟩ := store2 (.bool ((sg : Int) == 13)) (.string ⟨(K k).toArray⟩) HB.out
        obtain ⟨d0, d1⟩ := two_cells s4.out
        go_wp2_with (fail)
        refine ⟨by simp, ?_⟩
        refine ⟨.tuple #[.agg #[.bool ((sg : Int) == 13), .string ⟨(K k).toArray⟩], .bool true], ?_, ?_, ?_⟩
        · simp [results, Tryd.f63, go_sem, d0, d1]
        · rw [HRR.out]; rw [Nat.add_sub_cancel, show (sg == 11) = false from beq_eq_false_iff_ne.2 h11, show ((sg : Int) == 13) = (sg == 13) from by rw [Bool.eq_iff_iff, beq_iff_eq, beq_iff_eq]; omega]; rfl
        · exact (HC2.out.trans hc).then s5.out (by simp)

theorem rDecode_any (w : World) (v : Value) (b : Go.Proofs.YtmklkfogddppmaaDoor.Bs) (hv : Reads w v b) :
    Calls Tryd.prog 63 #[v] w fun e w' =>
      e = .returned (.tuple #[.agg #[.bool (decS b).1.1, .string ⟨(decS b).1.2.toArray⟩], .bool (decS b).2]) ∧ Chg [] w w' := by
  obtain ⟨L, hL⟩ : ∃ L, b.length = L := ⟨_, rfl⟩
  by_cases h1 : okSize b.length = true
  · rcases Nat.lt_or_ge ((nibr b).getD 0 0) 10 with h | h
    · exact rDecode_low w v b hv h1 h
    · exact rDecode_high w v b hv h1 h
  · have H := hid (decS_badSize b h1)
    rw [H.out]
    have HN := hid (Bool.eq_false_iff.2 h1)
    rw [hL] at HN
    clear h1
    obtain ⟨va, vc, rfl⟩ := hv.shape hL
    clear hL
    go_enter Tryd.func63, Tryd.ntmps63
    go_wp2_with (go_at_call 77; refine (rsize_any _ _).mono ?_; rintro e w' ⟨rfl, rfl⟩; rw [HN.out])
    obtain ⟨q00, q01⟩ := two_cells (al_new (w := w) (o := .cells #[.bool false, .string ⟨#[]⟩] 70) rfl)
    refine ⟨by simp, ?_⟩
    refine ⟨.tuple #[.agg #[.bool false, .string ⟨([] : Bs).toArray⟩], .bool false], ?_, ?_, ?_⟩
    · simp [results, Tryd.f63, go_sem, q00, q01]
    · rfl
    · exact Chg.alloc _ _ _

end Go.Proofs.YtmklkfogddppmaaDoor
