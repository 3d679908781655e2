/- Bytes of the reference of layer 3. -/
import Derived.Test.YtmmhokcdchhciaaRef1
import Derived.Test.YtmmhokcdchhciaaApp2
import Derived.Deep.RegionHeld3
namespace Go.Proofs.Ytmmhokcdchhciaa
open Go.RowKit
set_option linter.unusedVariables false

theorem pairs_take_succ (h : Nat) (l : List Nat) (hl : l.length = 2 * h) (k : Nat) (hk : k < h) :
    (pairs l).take (k + 1) = (pairs l).take k ++ [UInt8.ofNat (16 * l.getD (2 * k) 0 + l.getD (2 * k + 1) 0)] := by
  rw [List.take_succ_eq_append_getElem (by rw [pairs_length h l hl]; exact hk), pairs_get h l hl]

set_option maxHeartbeats 1000000 in
theorem Bytes_any (w : World) (v : Value) (l : List Nat) (h : Nat) (hv : ReadsV w v (l.map en)) (hl : l.length = 2 * h) (hh : 1 ≤ h) (hh2 : h ≤ 1000) (hlt16 : ∀ q ∈ l, q < 16) :
    Calls Try.prog 36 #[v] w fun e w' =>
      ∃ u, e = .returned u ∧ w'.ownsRow w.heap.size 5 1 u h ((pairs l).map eb) ∧ Chg [] w w' := by
  have HP := hid (pairs_take_succ h l hl)
  have HLn := hid (pairs_length h l hl)
  have HQ : Hid (∀ i, l.getD i 0 < 16) := fun i => by
    rw [List.getD_eq_getElem?_getD]
    rcases Nat.lt_or_ge i l.length with hi | hi
    · rw [List.getElem?_eq_getElem hi]; exact hlt16 _ (List.getElem_mem _)
    · rw [List.getElem?_eq_none hi]; decide
  rcases hv.parts hl with ⟨_, h0, _⟩ | ⟨bb, off, cap, rfl, _, hc1, hc2, HC⟩
  · omega
  have hbb := block_lt_of_cell (HC.out 0 (by omega))
  simp only at hbb
  clear hv hl hlt16
  have e0 : (((2 * h : Nat) : Nat) : Int) = 2 * (h : Int) := by omega
  have E0 := hid e0; clear e0
  obtain ⟨L, hL⟩ : ∃ L, L = 2 * h := ⟨_, rfl⟩
  rw [← hL] at hc1 HC ⊢
  have hL2 : L ≤ 2 * h := by omega
  have hL3 : 2 * h ≤ L := by omega
  clear hL
  go_enter Try.func36, Try.ntmps36
  go_wp2_with fail
  go_loopw [3, 4] (fun v i wr => ∃ k : Nat, k ≤ h ∧ i = .int .i64 (2 * (k : Int)) ∧ wr.ownsRow w.heap.size 5 1 v k (((pairs l).take k).map eb) ∧ Chg [] w wr) (fun _ i _ => L - (intOf i).toNat)
  case atStart => exact ⟨0, by omega, rfl, World.ownsRow_nil _ _ _ _, Chg.refl _ _⟩
  case round =>
    obtain ⟨k, hk, rfl, hown, hc⟩ := hrel
    have hsz := hc.size
    by_cases hlt : k < h
    · have hc0 := hc.cell (HC.out (2 * k) (by omega)) (by simp)
      have hc1' := hc.cell (HC.out (2 * k + 1) (by omega)) (by simp)
      have hx := HQ.out (2 * k)
      have hy := HQ.out (2 * k + 1)
      have HP2 := hid (HP.out k hlt)
      generalize l.getD (2 * k) 0 = x at *
      generalize l.getD (2 * k + 1) 0 = y at *
      have hnb : ∀ i ∈ own u3, i ≠ bb := fun i hi e => by have := own_ge hown i hi; omega
      have HNB := hid hnb; clear hnb
      go_wp2_with fail
      have e1 : IntKind.i64.wrap (2 * (k : Int) + 1) = 2 * (k : Int) + 1 := IntWalk.i64_in _ (by omega)
      have e2 : IntKind.i64.wrap (16 * (x : Int)) = 16 * (x : Int) := IntWalk.i64_in _ (by omega)
      have e3 : IntKind.i64.wrap (16 * (x : Int) + y) = 16 * (x : Int) + y := IntWalk.i64_in _ (by omega)
      have e4 : IntKind.u8.wrap (16 * (x : Int) + y) = 16 * (x : Int) + y := IntWalk.u8_in _ (by omega)
      have e5 : (2 * (k : Int)).toNat = 2 * k := by omega
      have e6 : (2 * (k : Int) + 1).toNat = 2 * k + 1 := by omega
      have e7 : (0 : Int) ≤ 2 * (k : Int) := by omega
      have e8 : (0 : Int) ≤ 2 * (k : Int) + 1 := by omega
      have e9 : 2 * (k : Int) < L := by omega
      have e10 : 2 * (k : Int) + 1 < L := by omega
      go_region_held3 (fun w' => w'.cell? ⟨bb, off + 2 * k, none⟩ = some (.int .i64 (x : Int)) ∧ w'.cell? ⟨bb, off + (2 * k + 1), none⟩ = some (.int .i64 (y : Int)))
        (first
          | go_keep
          | (go_split_ands
             refine ⟨?_, ?_⟩
             · (exact hc'.cell (by assumption) (fun e => HNB.out _ e rfl))
             · (exact hc'.cell (by assumption) (fun e => HNB.out _ e rfl))))
        ((refine stepN rfl _ _ 22 rfl w.heap.size 5 1 (.int .u8 0) Try.underlying22 info_u8 rfl (by decide) 1 [.int .u8 (16 * (x : Int) + y)] rfl (by decide) ((hown.alloc _).drew) wr.heap.size (heap_alloc_new wr _) rfl rfl (by simp [Value.oneCell']) (by omega) (by simp; omega) ?_; intro v' w' ho' hc'))
      clear e1 e2 e3 e4 e5 e6
      go_wp2_with fail
      go_roundw
      case rel =>
        refine ⟨k + 1, by omega, by go_num, ?_, chg_own (wr := wr) hc hown (by omega) (((Chg.alloc _ _ _).trans (Chg.drew _ _)).trans hc')⟩
        rw [show Value.int .u8 (16 * (x : Int) + y) = eb (UInt8.ofNat (16 * x + y)) from by rw [eb, toNat_ofNat (by omega)]; rw [show ((16 * x + y : Nat) : Int) = 16 * (x : Int) + y from by omega],
          show [eb (UInt8.ofNat (16 * x + y))] = [UInt8.ofNat (16 * x + y)].map eb from rfl, ← List.map_append, ← HP2.out] at ho'
        exact ho'
      case measure => simp [intOf]; omega
    · obtain rfl : k = h := by omega
      go_wp2_with fail
      go_returns
      refine ⟨_, rfl, ?_, hc⟩
      rw [List.take_of_length_le (by rw [HLn.out]; exact Nat.le_refl _)] at hown
      exact hown

end Go.Proofs.Ytmmhokcdchhciaa
