/- Bytes of the reference of layer 3. -/
import Derived.Deep.RegionHeld3
import Derived.Test.YtmklkfogddppmaaDoorKApp4
import Derived.Test.YtmklkfogddppmaaDoorKSpecD
import Derived.Test.YtmklkfogddppmaaDoorKPackH
namespace Go.Proofs.YtmklkfogddppmaaDoor
open Go.RowKit
set_option linter.unusedVariables false

theorem pairs_take_succ (h : Nat) (l : List Nat) (hl : l.length = 2 * h) (k : Nat) (hk : k < h) :
    (pairs l).take (k + 1) = (pairs l).take k ++ [UInt8.ofNat (16 * l.getD (2 * k) 0 + l.getD (2 * k + 1) 0)] := by
  rw [List.take_succ_eq_append_getElem (by rw [pairs_length h l hl]; exact hk), pairs_get h l hl]

set_option maxHeartbeats 1000000 in
theorem Bytes_any (w : World) (v : Value) (l : List Nat) (h : Nat) (hv : ReadsV w v (l.map en)) (hl : l.length = 2 * h) (hh : 1 ≤ h) (hh2 : h ≤ 1000) (hlt16 : ∀ q ∈ l, q < 16) :
    Calls Tryd.prog 69 #[v] w fun e w' =>
      ∃ u, e = .returned u ∧ w'.ownsRow w.heap.size 5 1 u h ((pairs l).map eb) ∧ Chg [] w w' := by
  have HP := hid (pairs_take_succ h l hl)
  have HLn := hid (pairs_length h l hl)
  have HQ : Hid (∀ i, l.getD i 0 < 16) := fun i => by
    rw [List.getD_eq_getElem?_getD]
    rcases Nat.lt_or_ge i l.length with hi | hi
    · rw [List.getElem?_eq_getElem hi]; exact hlt16 _ (List.getElem_mem _)
    · rw [List.getElem?_eq_none hi]; decide
  rcases hv.parts hl with ⟨_, h0, _⟩ | ⟨bb, off, cap, rfl, _, hc1, hc2, HC⟩
  · omega
  have hbb := block_lt_of_cell (HC.out 0 (by omega))
  simp only at hbb
  clear hv hl hlt16
  have e0 : (((2 * h : Nat) : Nat) : Int) = 2 * (h : Int) := by omega
  have E0 := hid e0; clear e0
  obtain ⟨L, hL⟩ : ∃ L, L = 2 * h := ⟨_, rfl⟩
  rw [← hL] at hc1 HC ⊢
  have hL2 : L ≤ 2 * h := by omega
  have hL3 : 2 * h ≤ L := by omega
  clear hL
  go_enter Tryd.func69, Tryd.ntmps69
  go_wp2_with fail
  go_loopw [3, 4] (fun v i wr => ∃ k : Nat, k ≤ h ∧ i = .int .i64 (2 * (k : Int)) ∧ wr.ownsRow w.heap.size 5 1 v k (((pairs l).take k).map eb) ∧ Chg [] w wr) (fun _ i _ => L - (intOf i).toNat)
  case atStart => exact ⟨0, by omega, rfl, World.ownsRow_nil _ _ _ _, Chg.refl _ _⟩
  case round =>
    obtain ⟨k, hk, rfl, hown, hc⟩ := hrel
    have hsz := hc.size
    by_cases hlt : k < h
    · have hc0 := hc.cell (HC.out (2 * k) (by omega)) (by simp)
      have hc1' := hc.cell (HC.out (2 * k + 1) (by omega)) (by simp)
      have hx := HQ.out (2 * k)
      have hy := HQ.out (2 * k + 1)
      have HP2 := hid (HP.out k hlt)
      generalize l.getD (2 * k) 0 = x at *
      generalize l.getD (2 * k + 1) 0 = y at *
      have hnb : ∀ i ∈ own u3, i ≠ bb := fun i hi e => by have := own_ge hown i hi; omega
      have HNB := hid hnb; clear hnb
      go_wp2_with fail
      have e1 : IntKind.i64.wrap (2 * (k : Int) + 1) = 2 * (k : Int) + 1 := IntWalk.i64_in _ (by omega)
      have e2 : IntKind.i64.wrap (16 * (x : Int)) = 16 * (x : Int) := IntWalk.i64_in _ (by omega)
      have e3 : IntKind.i64.wrap (16 * (x : Int) + y) = 16 * (x : Int) + y := IntWalk.i64_in _ (by omega)
      have e4 : IntKind.u8.wrap (16 * (x : Int) + y) = 16 * (x : Int) + y := IntWalk.u8_in _ (by omega)
      have e5 : (2 * (k : Int)).toNat = 2 * k := by omega
      have e6 : (2 * (k : Int) + 1).toNat = 2 * k + 1 := by omega
      have e7 : (0 : Int) ≤ 2 * (k : Int) := by omega
      have e8 : (0 : Int) ≤ 2 * (k : Int) + 1 := by omega
      have e9 : 2 * (k : Int) < L := by omega
      have e10 : 2 * (k : Int) + 1 < L := by omega
      go_region_held3 (fun w' => w'.cell? ⟨bb, off + 2 * k, none⟩ = some (.int .i64 (x : Int)) ∧ w'.cell? ⟨bb, off + (2 * k + 1), none⟩ = some (.int .i64 (y : Int)))
        (first
          | go_keep
          | (go_split_ands
             refine ⟨?_, ?_⟩
             · (exact hc'.cell (by assumption) (fun e => HNB.out _ e rfl))
             · (exact hc'.cell (by assumption) (fun e => HNB.out _ e rfl))))
        ((refine stepN rfl _ _ 22 rfl w.heap.size 5 1 (.int .u8 0) Tryd.underlying22 info_u8 rfl (by decide) 1 [.int .u8 (16 * (x : Int) + y)] rfl (by decide) ((hown.alloc _).drew) wr.heap.size (heap_alloc_new wr _) rfl rfl (by simp [Value.oneCell']) (by omega) (by simp; omega) ?_; intro v' w' ho' hc'))
      clear e1 e2 e3 e4 e5 e6
      go_wp2_with fail
      go_roundw
      case rel =>
        refine ⟨k + 1, by omega, by go_num, ?_, chg_own (wr := wr) hc hown (by omega) (((Chg.alloc _ _ _).trans (Chg.drew _ _)).trans hc')⟩
        rw [show Value.int .u8 (16 * (x : Int) + y) = eb (UInt8.ofNat (16 * x + y)) from by rw [eb, toNat_ofNat (by omega)]; rw [show ((16 * x + y : Nat) : Int) = 16 * (x : Int) + y from by omega],
          show [eb (UInt8.ofNat (16 * x + y))] = [UInt8.ofNat (16 * x + y)].map eb from rfl, ← List.map_append, ← HP2.out] at ho'
        exact ho'
      case measure => simp [intOf]; omega
    · obtain rfl : k = h := by omega
      go_wp2_with fail
      go_returns
      refine ⟨_, rfl, ?_, hc⟩
      rw [List.take_of_length_le (by rw [HLn.out]; exact Nat.le_refl _)] at hown
      exact hown

end Go.Proofs.YtmklkfogddppmaaDoor

/- Digits of the reference of layer 3. -/
namespace Go.Proofs.YtmklkfogddppmaaDoor
open Go.RowKit
set_option linter.unusedVariables false

/-- the digits from left to right -/
def nibL (b : Bs) : List Nat := b.flatMap fun x => [x.toNat / 16, x.toNat % 16]
theorem nibL_rev (b : Bs) : nibL b = (nibr b).reverse := by
  unfold nibL nibr
  induction b with
  | nil => rfl
  | cons x b ih => simp [List.flatMap_append, ih]
theorem nibL_length (b : Bs) : (nibL b).length = 2 * b.length := by rw [nibL_rev, List.length_reverse, nibr_length]
theorem nibL_take_succ (b : Bs) (k : Nat) (h : k < b.length) : nibL (b.take (k + 1)) = nibL (b.take k) ++ [bN b k / 16, bN b k % 16] := by
  unfold nibL
  rw [List.take_succ_eq_append_getElem h, bN_get _ _ h, List.flatMap_append]
  rfl

set_option maxHeartbeats 1000000 in
theorem Digits_any (w : World) (v : Value) (b : Bs) (L : Nat) (hv : Reads w v b) (hl : b.length = L) (hl2 : L ≤ 1000) :
    Calls Tryd.prog 78 #[v] w fun e w' =>
      ∃ u, e = .returned u ∧ w'.ownsRow w.heap.size 3 1 u (2 * L) ((nibL b).map en) ∧ Chg [] w w' := by
  have HP := hid (nibL_take_succ b)
  rw [hl] at HP
  have hT : b.take L = b := List.take_of_length_le (by omega)
  have HT := hid hT; clear hT
  rcases hv.parts hl with ⟨rfl, rfl, a, cap, rfl⟩ | ⟨bb, off, cap, rfl, hL1, hc1, hc2, HC⟩
  · go_enter Tryd.func78, Tryd.ntmps78
    go_wp2_with fail
    refine wp_loop_rounds 1 ?_
    rw [rounds_succ]
    go_wp2_with fail
    go_returns
    exact ⟨_, rfl, World.ownsRow_nil _ _ _ _, Chg.refl _ _⟩
  have hbb := block_lt_of_cell (HC.out 0 (by omega))
  simp only at hbb
  clear hv hl
  go_enter Tryd.func78, Tryd.ntmps78
  go_wp2_with fail
  go_loopw [3, 4] (fun v i wr => ∃ k : Nat, k ≤ L ∧ i = .int .i64 k ∧ wr.ownsRow w.heap.size 3 1 v (2 * k) ((nibL (b.take k)).map en) ∧ Chg [] w wr) (fun _ i _ => L - (intOf i).toNat)
  case atStart => exact ⟨0, by omega, rfl, World.ownsRow_nil _ _ _ _, Chg.refl _ _⟩
  case round =>
    obtain ⟨k, hk, rfl, hown, hc⟩ := hrel
    have hsz := hc.size
    by_cases hlt : k < L
    · have hc0 := hc.cell (HC.out k (by omega)) (by simp)
      have hx := bN_lt b k
      have HP2 := hid (HP.out k hlt)
      generalize bN b k = x at *
      have hnb : ∀ i ∈ own u3, i ≠ bb := fun i hi e => by have := own_ge hown i hi; omega
      have HNB := hid hnb; clear hnb
      go_wp2_with fail
      have e1 : IntKind.i64.wrap ((x : Int).tdiv 16) = ((x / 16 : Nat) : Int) := by rw [IntWalk.i64_quo _ _ (by omega)]; omega
      have e2 : (x : Int).tmod 16 = ((x % 16 : Nat) : Int) := by rw [IntWalk.rem_in _ _ (by omega)]; omega
      have e3 : IntKind.i64.wrap (x : Int) = (x : Int) := IntWalk.i64_in _ (by omega)
      have e4 : IntKind.i64.wrap ((x : Int) / 16) = ((x / 16 : Nat) : Int) := by rw [IntWalk.i64_in _ (by omega)]; omega
      have e5 : ((k : Int)).toNat = k := by omega
      have e7 : (0 : Int) ≤ (k : Int) := by omega
      have e9 : (k : Int) < L := by omega
      go_region_held3 (fun w' => w'.cell? ⟨bb, off + k, none⟩ = some (.int .u8 (x : Int)))
        (first
          | go_keep
          | (exact hc'.cell (by assumption) (fun e => HNB.out _ e rfl)))
        ((refine stepN rfl _ _ 52 rfl w.heap.size 3 8 (.int .i64 0) Tryd.underlying52 info_int rfl (by decide) 2 [.int .i64 ((x / 16 : Nat) : Int), .int .i64 ((x % 16 : Nat) : Int)] rfl (by decide) ((hown.alloc _).drew) wr.heap.size (heap_alloc_new wr _) rfl rfl (by simp [Value.oneCell']) (by omega) (by simp; omega) ?_; intro v' w' ho' hc'))
      clear e1 e2 e3 e4 e5
      go_wp2_with fail
      go_roundw
      case rel =>
        refine ⟨k + 1, by omega, by go_num, ?_, chg_own (wr := wr) hc hown (by omega) (((Chg.alloc _ _ _).trans (Chg.drew _ _)).trans hc')⟩
        rw [show [Value.int .i64 ((x / 16 : Nat) : Int), Value.int .i64 ((x % 16 : Nat) : Int)] = [x / 16, x % 16].map en from rfl, ← List.map_append, ← HP2.out] at ho'
        exact ho'
      case measure => simp [intOf]; omega
    · obtain rfl : k = L := by omega
      go_wp2_with fail
      go_returns
      refine ⟨_, rfl, ?_, hc⟩
      rw [HT.out] at hown
      exact hown

end Go.Proofs.YtmklkfogddppmaaDoor

/- Digits of a field from left to right. -/
namespace Go.Proofs.YtmklkfogddppmaaDoor
open Go.RowKit
set_option linter.unusedVariables false

theorem ReadsV.ofn {w : World} {base e n : Nat} {v : Value} {l : List Nat} (h : w.ownsRow base e 1 v n (l.map en)) (hn : l.length = n) : ReadsV w v (l.map en) := by
  subst hn; exact ReadsV.of_own (by rw [List.length_map]; exact h)

theorem ReadsV.take {w : World} {bb off L cap : Nat} {b : List Nat} (h : ReadsV w (.slice (some ⟨bb, off, none⟩) L cap) (b.map en)) (k : Nat) (hk : k ≤ L) : ReadsV w (.slice (some ⟨bb, off, none⟩) k cap) ((b.take k).map en) := by
  obtain ⟨a, c, hv, h1, h2, h3, h4⟩ := h
  cases hv
  rw [List.length_map] at *
  refine ⟨some ⟨bb, off, none⟩, cap, by simp [Nat.min_eq_left hk], by simp; omega, h2, (fun h => by cases h), fun x hx => ?_⟩
  obtain ⟨h5, h6⟩ := h4 x hx
  refine ⟨h5, fun i hi => ?_⟩
  simp at hi
  rw [h6 i (by simp; omega)]
  simp

theorem nibL_init (b : Bs) (D : Nat) (hD : 2 * b.length = D) : (nibL b).take (D - 1) = (nibr b).tail.reverse := by
  have hl := nibr_length b
  rw [nibL_rev]
  cases h : nibr b with
  | nil => simp
  | cons x t =>
    rw [h, List.length_cons] at hl
    simp only [List.reverse_cons, List.tail_cons]
    rw [List.take_append_of_le_length (by simp; omega), List.take_of_length_le (by simp; omega)]

theorem nibL_last (b : Bs) (D : Nat) (hD : 2 * b.length = D) (h1 : 1 ≤ b.length) : (nibL b).getD (D - 1) 0 = (nibr b).getD 0 0 := by
  rw [nibL_rev, getD_reverse _ _ (by rw [nibr_length]; omega)]
  congr 1
  rw [nibr_length]; omega

end Go.Proofs.YtmklkfogddppmaaDoor
