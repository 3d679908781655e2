/- Digits of the reference of layer 3. -/
import Derived.Test.YtmmhokcdchhciaaBytes
namespace Go.Proofs.Ytmmhokcdchhciaa
open Go.RowKit
set_option linter.unusedVariables false

/-- the digits from left to right -/
def nibL (b : Bs) : List Nat := b.flatMap fun x => [x.toNat / 16, x.toNat % 16]
theorem nibL_rev (b : Bs) : nibL b = (nibr b).reverse := by
  unfold nibL nibr
  induction b with
  | nil => rfl
  | cons x b ih => simp [List.flatMap_append, ih]
theorem nibL_length (b : Bs) : (nibL b).length = 2 * b.length := by rw [nibL_rev, List.length_reverse, nibr_length]
theorem nibL_take_succ (b : Bs) (k : Nat) (h : k < b.length) : nibL (b.take (k + 1)) = nibL (b.take k) ++ [bN b k / 16, bN b k % 16] := by
  unfold nibL
  rw [List.take_succ_eq_append_getElem h, bN_get _ _ h, List.flatMap_append]
  rfl

set_option maxHeartbeats 1000000 in
theorem Digits_any (w : World) (v : Value) (b : Bs) (L : Nat) (hv : Reads w v b) (hl : b.length = L) (hl2 : L ≤ 1000) :
    Calls Try.prog 44 #[v] w fun e w' =>
      ∃ u, e = .returned u ∧ w'.ownsRow w.heap.size 3 1 u (2 * L) ((nibL b).map en) ∧ Chg [] w w' := by
  have HP := hid (nibL_take_succ b)
  rw [hl] at HP
  have hT : b.take L = b := List.take_of_length_le (by omega)
  have HT := hid hT; clear hT
  rcases hv.parts hl with ⟨rfl, rfl, a, cap, rfl⟩ | ⟨bb, off, cap, rfl, hL1, hc1, hc2, HC⟩
  · go_enter Try.func44, Try.ntmps44
    go_wp2_with fail
    refine wp_loop_rounds 1 ?_
    rw [rounds_succ]
    go_wp2_with fail
    go_returns
    exact ⟨_, rfl, World.ownsRow_nil _ _ _ _, Chg.refl _ _⟩
  have hbb := block_lt_of_cell (HC.out 0 (by omega))
  simp only at hbb
  clear hv hl
  go_enter Try.func44, Try.ntmps44
  go_wp2_with fail
  go_loopw [3, 4] (fun v i wr => ∃ k : Nat, k ≤ L ∧ i = .int .i64 k ∧ wr.ownsRow w.heap.size 3 1 v (2 * k) ((nibL (b.take k)).map en) ∧ Chg [] w wr) (fun _ i _ => L - (intOf i).toNat)
  case atStart => exact ⟨0, by omega, rfl, World.ownsRow_nil _ _ _ _, Chg.refl _ _⟩
  case round =>
    obtain ⟨k, hk, rfl, hown, hc⟩ := hrel
    have hsz := hc.size
    by_cases hlt : k < L
    · have hc0 := hc.cell (HC.out k (by omega)) (by simp)
      have hx := bN_lt b k
      have HP2 := hid (HP.out k hlt)
      generalize bN b k = x at *
      have hnb : ∀ i ∈ own u3, i ≠ bb := fun i hi e => by have := own_ge hown i hi; omega
      have HNB := hid hnb; clear hnb
      go_wp2_with fail
      have e1 : IntKind.i64.wrap ((x : Int).tdiv 16) = ((x / 16 : Nat) : Int) := by rw [IntWalk.i64_quo _ _ (by omega)]; omega
      have e2 : (x : Int).tmod 16 = ((x % 16 : Nat) : Int) := by rw [IntWalk.rem_in _ _ (by omega)]; omega
      have e3 : IntKind.i64.wrap (x : Int) = (x : Int) := IntWalk.i64_in _ (by omega)
      have e4 : IntKind.i64.wrap ((x : Int) / 16) = ((x / 16 : Nat) : Int) := by rw [IntWalk.i64_in _ (by omega)]; omega
      have e5 : ((k : Int)).toNat = k := by omega
      have e7 : (0 : Int) ≤ (k : Int) := by omega
      have e9 : (k : Int) < L := by omega
      go_region_held3 (fun w' => w'.cell? ⟨bb, off + k, none⟩ = some (.int .u8 (x : Int)))
        (first
          | go_keep
          | (exact hc'.cell (by assumption) (fun e => HNB.out _ e rfl)))
        ((refine stepN rfl _ _ 49 rfl w.heap.size 3 8 (.int .i64 0) Try.underlying49 info_int rfl (by decide) 2 [.int .i64 ((x / 16 : Nat) : Int), .int .i64 ((x % 16 : Nat) : Int)] rfl (by decide) ((hown.alloc _).drew) wr.heap.size (heap_alloc_new wr _) rfl rfl (by simp [Value.oneCell']) (by omega) (by simp; omega) ?_; intro v' w' ho' hc'))
      clear e1 e2 e3 e4 e5
      go_wp2_with fail
      go_roundw
      case rel =>
        refine ⟨k + 1, by omega, by go_num, ?_, chg_own (wr := wr) hc hown (by omega) (((Chg.alloc _ _ _).trans (Chg.drew _ _)).trans hc')⟩
        rw [show [Value.int .i64 ((x / 16 : Nat) : Int), Value.int .i64 ((x % 16 : Nat) : Int)] = [x / 16, x % 16].map en from rfl, ← List.map_append, ← HP2.out] at ho'
        exact ho'
      case measure => simp [intOf]; omega
    · obtain rfl : k = L := by omega
      go_wp2_with fail
      go_returns
      refine ⟨_, rfl, ?_, hc⟩
      rw [HT.out] at hown
      exact hown

end Go.Proofs.Ytmmhokcdchhciaa
