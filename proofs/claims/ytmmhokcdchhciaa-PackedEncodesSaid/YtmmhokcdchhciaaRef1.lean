/- values, right of the reference of layer 3. -/
import Derived.Test.YtmmhokcdchhciaaApp
import Derived.Test.YtmmhokcdchhciaaSpecC
import Derived.Test.YtmmhokcdchhciaaWriter
namespace Go.Proofs.Ytmmhokcdchhciaa
open Go.RowKit
set_option linter.unusedVariables false

/-- the digits from left to right -/
def valsL (d : Bs) : List Nat := d.map fun c => c.toNat - 48
theorem valsL_rev (d : Bs) : valsL d = (valsR d).reverse := by simp [valsL, valsR]
theorem valsL_length (d : Bs) : (valsL d).length = d.length := by simp [valsL]
theorem valsL_take_succ (s : ByteArray) (k : Nat) (h : k < s.size) : (valsL s.data.toList).take (k + 1) = (valsL s.data.toList).take k ++ [s[k].toNat - 48] := by
  rw [List.take_succ_eq_append_getElem (by rw [valsL_length, ba_len]; exact h)]
  simp [valsL]; rfl

theorem values_any (w : World) (neg : Bool) (s : ByteArray) (hs : validS s.data.toList = true) :
    Calls Try.prog 34 #[.agg #[.bool neg, .string s]] w fun e w' =>
      ∃ u, e = .returned u ∧ w'.ownsRow w.heap.size 3 1 u (valsL s.data.toList).length ((valsL s.data.toList).map en) ∧ Chg [] w w' := by
  obtain ⟨hL1, hL2, hdig⟩ := valid_digits hs
  have HD := hid hdig; clear hdig
  have HT := hid (valsL_take_succ s)
  have HL := hid (valsL_length s.data.toList)
  have hb0 : (w.alloc (.cells #[.bool neg, .string s] 26)).heap[w.heap.size]? = some (.cells #[.bool neg, .string s] 26 (0, 0)) := al_new rfl
  have HB0 := hid hb0; clear hb0
  go_enter Try.func34, Try.ntmps34
  go_wp2_with fail
  go_loopw [3, 4] (fun v i wr => ∃ k : Nat, k ≤ s.size ∧ i = .int .i64 k ∧ wr.ownsRow (w.heap.size + 1) 3 1 v k (((valsL s.data.toList).take k).map en) ∧ Chg [] w wr ∧
      Hid (wr.heap[w.heap.size]? = some (.cells #[.bool neg, .string s] 26 (0, 0)))) (fun _ i _ => s.size - (intOf i).toNat)
  case atStart => exact ⟨0, by omega, rfl, World.ownsRow_nil _ _ _ _, Chg.alloc _ _ _, HB0⟩
  case round =>
    clear HB0
    obtain ⟨k, hk, rfl, hown, hc, hb⟩ := hrel
    have hcc1 := (two_cells hb.out).2
    have hsz := lt_of_block hb.out
    by_cases hlt : k < s.size
    · have hx : 48 ≤ (s[k]'hlt).toNat ∧ (s[k]'hlt).toNat ≤ 57 := by rw [← ba_bN s k hlt]; exact HD.out k hlt
      have he := hid (show [Value.int .i64 (((s[k]'hlt).toNat : Int) - 48)] = [(s[k]'hlt).toNat - 48].map en from by simp only [List.map_cons, List.map_nil, en]; rw [show (((s[k]'hlt).toNat : Int) - 48) = (((s[k]'hlt).toNat - 48 : Nat) : Int) from by omega])
      go_wp2_with (first | (at_builtin; refine appendN rfl _ _ 49 rfl (w.heap.size + 1) 3 8 (.int .i64 0) Try.underlying49 info_int rfl (by decide) 1 [_] rfl hown rfl rfl (by simp [Value.oneCell']) (by omega) (by omega) ?_; intro v' w' ho' hc'))
      go_roundw
      case rel =>
        refine ⟨k + 1, by omega, by go_num, ?_, chg_own hc hown (by omega) hc', hc'.heap hb.out (fun e => by have := own_ge hown _ e; omega)⟩
        rw [he.out, ← List.map_append, ← HT.out k hlt] at ho'
        exact ho'
      case measure => simp [intOf]; omega
    · obtain rfl : k = s.size := by omega
      go_wp2_with fail
      go_returns
      refine ⟨_, rfl, ?_, hc⟩
      rw [List.take_of_length_le (by rw [HL.out, ba_len]; exact Nat.le_refl _)] at hown
      rw [HL.out, ba_len]
      exact own_base hown (by omega)

/-- 'right' of the reference -/
theorem rightL_take_zero (l : List Nat) (n k : Nat) (hk : k + l.length < n) : (rightL l n).take (k + 1) = (rightL l n).take k ++ [0] := by
  rw [List.take_succ_eq_append_getElem (by rw [rightL_length]; omega)]
  congr 2
  unfold rightL
  rw [List.getElem_append_left (by simp; omega)]; simp
theorem rightL_take_get (l : List Nat) (n k : Nat) (h1 : n ≤ k + l.length) (hk : k < n) : (rightL l n).take (k + 1) = (rightL l n).take k ++ [l.getD (k + l.length - n) 0] := by
  rw [List.take_succ_eq_append_getElem (by rw [rightL_length]; omega)]
  congr 2
  unfold rightL
  rw [List.getElem_append_right (by simp; omega), List.getElem_drop, List.getD_eq_getElem?_getD, List.getElem?_eq_getElem (by omega)]
  simp only [List.length_replicate, Option.getD_some]
  congr 1
  omega

theorem right_any (w : World) (v : Value) (l : List Nat) (n : Nat) (hv : ReadsV w v (l.map en)) (hl : l.length ≤ 1000) (hn : n ≤ 1000) :
    Calls Try.prog 33 #[v, .int .i64 (n : Int)] w fun e w' =>
      ∃ u, e = .returned u ∧ w'.ownsRow w.heap.size 3 1 u n ((rightL l n).map en) ∧ Chg [] w w' := by
  obtain ⟨L, hL⟩ : ∃ L, l.length = L := ⟨_, rfl⟩
  have HZ := hid (rightL_take_zero l n)
  have HG := hid (rightL_take_get l n)
  have HLn := hid (rightL_length l n)
  rw [hL] at HZ HG hl
  have hcells : ∃ bb off cap, (v = .slice (some ⟨bb, off, none⟩) L cap ∨ L = 0 ∧ ∃ a, v = .slice a 0 cap) ∧ L ≤ L ∧ Hid (∀ i, i < L → w.cell? ⟨bb, off + i, none⟩ = some (.int .i64 (l.getD i 0 : Nat))) := by
    rcases hv.parts hL with ⟨h0, h1, a, cap, rfl⟩ | ⟨bb, off, cap, rfl, _, _, _, HC⟩
    · exact ⟨0, 0, cap, .inr ⟨h1, a, rfl⟩, Nat.le_refl _, fun i hi => by omega⟩
    · exact ⟨bb, off, cap, .inl rfl, Nat.le_refl _, HC⟩
  obtain ⟨bb, off, cap, hvv, _, HC⟩ := hcells
  clear hv hL
  rcases hvv with rfl | ⟨rfl, a, rfl⟩
  · go_enter Try.func33, Try.ntmps33
    go_wp2_with fail
    go_loopw [5, 6] (fun v i wr => ∃ k : Nat, k ≤ n ∧ i = .int .i64 ((L : Nat) - n + k) ∧ wr.ownsRow w.heap.size 3 1 v k (((rightL l n).take k).map en) ∧ Chg [] w wr) (fun _ i _ => ((L : Nat) - intOf i).toNat)
    case atStart => exact ⟨0, by omega, by go_num, World.ownsRow_nil _ _ _ _, Chg.refl _ _⟩
    case round =>
      obtain ⟨k, hk, rfl, hown, hc⟩ := hrel
      have hsz := hc.size
      by_cases hlt : k < n
      · by_cases hneg : k + L < n
        · have h1 : ((L : Nat) : Int) - n + k < 0 := by omega
          have he := hid (show [Value.int .i64 0] = [0].map en from rfl)
          go_wp2_with (first | (at_builtin; refine appendN rfl _ _ 49 rfl w.heap.size 3 8 (.int .i64 0) Try.underlying49 info_int rfl (by decide) 1 [_] rfl hown rfl rfl (by simp [Value.oneCell']) (by omega) (by omega) ?_; intro v' w' ho' hc'))
          go_roundw
          case rel =>
            refine ⟨k + 1, by omega, by go_num, ?_, chg_own hc hown (by omega) hc'⟩
            rw [he.out, ← List.map_append, ← HZ.out k hneg] at ho'
            exact ho'
          case measure => simp [intOf]; omega
        · have hge : ¬ ((L : Nat) : Int) - n + k < 0 := by omega
          have hi : (((L : Nat) : Int) - n + k).toNat = k + L - n := by omega
          have hcl : wr.cell? ⟨bb, off + ((L : Int) - n + k).toNat, none⟩ = some (.int .i64 (l.getD (k + L - n) 0 : Nat)) := by rw [hi]; exact hc.cell (HC.out (k + L - n) (by omega)) (by simp)
          clear hi
          have HG2 := hid (HG.out k (by omega) hlt)
          generalize l.getD (k + L - n) 0 = x at *
          go_wp2_with (first | (at_builtin; refine appendN rfl _ _ 49 rfl w.heap.size 3 8 (.int .i64 0) Try.underlying49 info_int rfl (by decide) 1 [_] rfl hown rfl rfl (by simp [Value.oneCell']) (by omega) (by omega) ?_; intro v' w' ho' hc'))
          go_roundw
          case rel =>
            refine ⟨k + 1, by omega, by go_num, ?_, chg_own hc hown (by omega) hc'⟩
            rw [show [Value.int .i64 (x : Int)] = [x].map en from rfl, ← List.map_append, ← HG2.out] at ho'
            exact ho'
          case measure => simp [intOf]; omega
      · obtain rfl : k = n := by omega
        go_wp2_with fail
        go_returns
        refine ⟨_, rfl, ?_, hc⟩
        rw [List.take_of_length_le (by rw [HLn.out]; exact Nat.le_refl _)] at hown
        exact hown

  · go_enter Try.func33, Try.ntmps33
    go_wp2_with fail
    go_loopw [5, 6] (fun v i wr => ∃ k : Nat, k ≤ n ∧ i = .int .i64 ((0 : Nat) - n + k) ∧ wr.ownsRow w.heap.size 3 1 v k (((rightL l n).take k).map en) ∧ Chg [] w wr) (fun _ i _ => ((0 : Nat) - intOf i).toNat)
    case atStart => exact ⟨0, by omega, by go_num, World.ownsRow_nil _ _ _ _, Chg.refl _ _⟩
    case round =>
      obtain ⟨k, hk, rfl, hown, hc⟩ := hrel
      have hsz := hc.size
      by_cases hlt : k < n
      · by_cases hneg : k + 0 < n
        · have h1 : ((0 : Nat) : Int) - n + k < 0 := by omega
          have he := hid (show [Value.int .i64 0] = [0].map en from rfl)
          go_wp2_with (first | (at_builtin; refine appendN rfl _ _ 49 rfl w.heap.size 3 8 (.int .i64 0) Try.underlying49 info_int rfl (by decide) 1 [_] rfl hown rfl rfl (by simp [Value.oneCell']) (by omega) (by omega) ?_; intro v' w' ho' hc'))
          go_roundw
          case rel =>
            refine ⟨k + 1, by omega, by go_num, ?_, chg_own hc hown (by omega) hc'⟩
            rw [he.out, ← List.map_append, ← HZ.out k hneg] at ho'
            exact ho'
          case measure => simp [intOf]; omega
        · omega
      · obtain rfl : k = n := by omega
        go_wp2_with fail
        go_returns
        refine ⟨_, rfl, ?_, hc⟩
        rw [List.take_of_length_le (by rw [HLn.out]; exact Nat.le_refl _)] at hown
        exact hown

end Go.Proofs.Ytmmhokcdchhciaa
