/- The small functions of layer 3 and of its reference. -/
import Derived.Test.YtmklkfogddppmaaDoorProg
import Derived.Test.YtmklkfogddppmaaDoorKFrameB
import Derived.Test.YtmklkfogddppmaaDoorKSpecB
import Derived.Test.YtmklkfogddppmaaDoorKPut
namespace Go.Proofs.YtmklkfogddppmaaDoor
open Go.RowKit
set_option linter.unusedVariables false

theorem inField_any (n : Int) (w : World) : Calls Tryd.prog 74 #[.int .i64 n] w fun e w' => e = .returned (.bool (okSize n)) ∧ w = w' := by
  have H := hid (show okSize n = (decide (1 ≤ n) && decide (n ≤ 16)) from rfl)
  by_cases h1 : 1 ≤ n <;> by_cases h2 : n ≤ 16 <;>
  · go_enter Tryd.func74, Tryd.ntmps74
    go_wp2
    go_returns
    exact ⟨by rw [H.out]; simp [*], rfl⟩

theorem rsize_any (n : Int) (w : World) : Calls Tryd.prog 77 #[.int .i64 n] w fun e w' => e = .returned (.bool (okSize n)) ∧ w = w' := by
  have H := hid (show okSize n = (decide (1 ≤ n) && decide (n ≤ 16)) from rfl)
  by_cases h1 : 1 ≤ n <;> by_cases h2 : n ≤ 16 <;>
  · go_enter Tryd.func77, Tryd.ntmps77
    go_wp2
    go_returns
    exact ⟨by rw [H.out]; simp [*], rfl⟩

theorem signOf_any (b : Bool) (w : World) : Calls Tryd.prog 82 #[.bool b] w fun e w' => e = .returned (.int .u8 (sgn b : Nat)) ∧ w = w' := by
  cases b <;>
  · go_enter Tryd.func82, Tryd.ntmps82
    go_wp2
    go_returns
    exact ⟨rfl, rfl⟩

theorem Same_any (w : World) (v u : Value) (xs ys : Bs) (h : Reads w v xs) (k : Reads w u ys) : Calls Tryd.prog 15 #[v, u] w fun e w' => e = .returned (.bool (xs == ys)) ∧ w = w' := by
  have c1 := h.str (P := Tryd.prog) 22 9 5 Tryd.underlying22 Tryd.underlying5 Tryd.underlying9
  have c2 := k.str (P := Tryd.prog) 22 9 5 Tryd.underlying22 Tryd.underlying5 Tryd.underlying9
  go_enter Tryd.func15, Tryd.ntmps15
  go_wp2
  go_returns
  exact ⟨by simp, rfl⟩

end Go.Proofs.YtmklkfogddppmaaDoor

/- Valid of layer 3. -/
namespace Go.Proofs.YtmklkfogddppmaaDoor
open Go.RowKit
set_option linter.unusedVariables false

theorem valid_any (b : Bool) (s : ByteArray) (hs : s.size ≤ maxLen) (w : World) :
    Calls Tryd.prog 80 #[.agg #[.bool b, .string s]] w fun e w' => e = .returned (.bool (validS s.data.toList)) ∧ Chg [] w w' := by
  unfold maxLen at hs
  by_cases h1 : (s.size : Int) < 1
  · have H := hid (valid_short s h1)
    go_enter Tryd.func80, Tryd.ntmps80
    go_wp2
    go_returns
    exact ⟨ret_bool H.out, Chg.alloc _ _ _⟩
  · by_cases h2 : (31 : Int) < (s.size : Int)
    · have H := hid (valid_long s h2)
      go_enter Tryd.func80, Tryd.ntmps80
      go_wp2
      go_returns
      exact ⟨ret_bool H.out, Chg.alloc _ _ _⟩
    · go_enter Tryd.func80, Tryd.ntmps80
      go_wp2
      · go_returns
        exact ⟨ret_bool (valid_zero s (by omega) ‹_› (by first | assumption | (rw [beq_iff_eq]; assumption))), Chg.alloc _ _ _⟩
      all_goals
        have h3 : (s.size : Int) ≤ 1 ∨ ∃ h : 0 < s.size, ((s[0].toNat : Int) == 48) = false := by first | exact .inl (by omega) | exact .inr ⟨‹_›, by first | assumption | (rw [beq_eq_false_iff_ne]; assumption)⟩
        have H3 := hid h3; clear h3
        go_loop [29] (fun i => ∃ k : Nat, k ≤ s.size ∧ i = .int .i64 k ∧ Hid ((s.data.toList.take k).all digB = true)) (fun i => s.size - (intOf i).toNat)
        case atStart => exact ⟨0, Nat.zero_le _, rfl, rfl⟩
        case round =>
          obtain ⟨k, hk, rfl, hall⟩ := hrel
          by_cases hlt : k < s.size
          · by_cases h5 : (s[k].toNat : Int) < 48
            · have H := hid (valid_bad s k hlt (.inl h5))
              go_wp2
              go_returns
              exact ⟨ret_bool H.out, Chg.alloc _ _ _⟩
            · by_cases h6 : (57 : Int) < (s[k].toNat : Int)
              · have H := hid (valid_bad s k hlt (.inr h6))
                go_wp2
                go_returns
                exact ⟨ret_bool H.out, Chg.alloc _ _ _⟩
              · have H := hid (all_take_snoc (l := s.data.toList) (k := k) (by simpa using hlt) hall.out (digB_mk _ (by rw [ba_get s k hlt]; omega) (by rw [ba_get s k hlt]; omega)))
                go_wp2
                go_round
                case rel => exact ⟨k + 1, by omega, by go_num, H⟩
                case measure => simp [intOf]; omega
          · obtain rfl : k = s.size := by omega
            have H := hid (valid_good s (by omega) (by omega) H3.out hall.out)
            clear hall
            go_wp2
            go_returns
            exact ⟨ret_bool H.out, Chg.alloc _ _ _⟩

end Go.Proofs.YtmklkfogddppmaaDoor

/- writer, Pack and Encode of layer 3. -/
namespace Go.Proofs.YtmklkfogddppmaaDoor
open Go.RowKit
set_option linter.unusedVariables false

theorem info_u8 : (Tryd.prog.info? 5).map (fun i => (i.zero, i.size, i.bytes)) = some (some (.int .u8 0), 1, 1) := by kernel_rfl
theorem info_int : (Tryd.prog.info? 3).map (fun i => (i.zero, i.size, i.bytes)) = some (some (.int .i64 0), 1, 8) := by kernel_rfl

theorem fld_zero (n : Nat) : fld n [] = List.replicate n 0 := by
  refine List.ext_getElem (by simp [fld_length]) fun i h1 h2 => ?_
  rw [fld_get]; simp

/-- what writer hands back -/
def wval (w : World) (n : Nat) : Value := .tuple #[.slice (some ⟨w.heap.size, 0, none⟩) n n, .func (.func 89) #[] #[.pointer (some ⟨w.heap.size + 1 + 1, 0, none⟩), .pointer (some ⟨w.heap.size + 1, 0, none⟩)]]

theorem writer_any (n : Nat) (hn : n ≤ 1000) (w : World) : Calls Tryd.prog 81 #[.int .i64 (n : Int)] w fun e w' => e = .returned (wval w n) ∧
    Wr w' (w.heap.size + 1 + 1) (w.heap.size + 1) w.heap.size n [] ∧ Chg [] w w' ∧ w'.heap.size = w.heap.size + 3 := by
  have hmk := mk_bytes (P := Tryd.prog) 22 5 Tryd.underlying22 info_u8 n (by omega)
  go_enter Tryd.func81, Tryd.ntmps81
  go_wp2
  go_returns
  refine ⟨rfl, ⟨?_, ?_, ?_⟩, ((Chg.alloc _ _ _).trans (Chg.alloc _ _ _)).trans (Chg.alloc _ _ _), by simp⟩
  · exact (al_new (by simp)).trans (by rw [show atOf n [] = 2 * (n : Int) - 1 from by unfold atOf; simp])
  · exact al_old (al_new (by simp))
  · exact (al_old (al_old (al_new rfl))).trans (by rw [fld_zero, ← zrow_eq])

end Go.Proofs.YtmklkfogddppmaaDoor

/- Pack of layer 3: what it and its like need. -/
namespace Go.Proofs.YtmklkfogddppmaaDoor
open Go.RowKit
set_option linter.unusedVariables false

theorem ok_nat {n : Int} (h : okSize n = true) : ∃ m : Nat, n = m ∧ 1 ≤ m ∧ m ≤ 16 := by
  unfold okSize at h
  simp only [Bool.and_eq_true, decide_eq_true_eq] at h
  exact ⟨n.toNat, by omega, by omega, by omega⟩

/-- what Pack has written after k bytes -/
def packP (b : Bs) (k : Nat) : List Nat := (b.getLast?.getD 0).toNat / 16 :: (b.reverse.take k).map (·.toNat % 16)

theorem last_bN (b : Bs) : (b.getLast?.getD 0).toNat = bN b (b.length - 1) := by
  unfold bN; rw [List.getLast?_eq_getElem?, List.getD_eq_getElem?_getD]

theorem packP_zero (b : Bs) : packP b 0 = [bN b (b.length - 1) / 16] := by simp [packP, last_bN]

theorem packP_succ (b : Bs) (k : Nat) (h : k < b.length) : packP b (k + 1) = packP b k ++ [bN b (b.length - 1 - k) % 16] := by
  unfold packP
  rw [List.take_succ_eq_append_getElem (by simpa using h), bN_get _ _ (by omega)]
  simp

theorem packP_lt (b : Bs) (k : Nat) : ∀ q ∈ packP b k, q < 16 := by
  intro q hq
  simp only [packP, List.mem_cons, List.mem_map] at hq
  rcases hq with rfl | ⟨x, _, rfl⟩
  · have := (b.getLast?.getD 0).toNat_lt; omega
  · omega

theorem packS_eq (b : Bs) (m : Nat) (h1 : okSize b.length = true) (h2 : okSize m = true) : packS b m = fld m (packP b b.length) := by
  unfold packS packP
  rw [h1, h2, List.take_of_length_le (by simp)]; rfl

theorem packS_bad (b : Bs) (n : Int) (h : ¬ okSize b.length = true ∨ ¬ okSize n = true) : packS b n = [] := by
  unfold packS
  rcases h with h | h <;> simp [h]

theorem Wr.own {w : World} {Ba Bo g n : Nat} {p : List Nat} (h : Wr w Ba Bo g n p) (hn : n ≤ 1000) {B : Nat} (hB : B ≤ g) :
    w.ownsRow B 5 1 (.slice (some ⟨g, 0, none⟩) n n) n ((fld n p).map eb) :=
  ⟨by simp [fld_length], .inr ⟨g, n, _, rfl, hB, h.row, Nat.le_refl _, by unfold maxLen; omega, by simp [fld_length], by simpa using List.take_of_length_le (by simp [fld_length])⟩⟩

end Go.Proofs.YtmklkfogddppmaaDoor
