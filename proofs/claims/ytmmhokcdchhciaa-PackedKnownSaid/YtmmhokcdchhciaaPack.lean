/- Pack of layer 3. -/
import Derived.Test.YtmmhokcdchhciaaWriter
import Derived.Test.YtmmhokcdchhciaaFrameB
namespace Go.Proofs.Ytmmhokcdchhciaa
open Go.RowKit
set_option linter.unusedVariables false

theorem ok_nat {n : Int} (h : okSize n = true) : ∃ m : Nat, n = m ∧ 1 ≤ m ∧ m ≤ 16 := by
  unfold okSize at h
  simp only [Bool.and_eq_true, decide_eq_true_eq] at h
  exact ⟨n.toNat, by omega, by omega, by omega⟩

/-- what Pack has written after k bytes -/
def packP (b : Bs) (k : Nat) : List Nat := (b.getLast?.getD 0).toNat / 16 :: (b.reverse.take k).map (·.toNat % 16)
theorem last_bN (b : Bs) : (b.getLast?.getD 0).toNat = bN b (b.length - 1) := by
  unfold bN; rw [List.getLast?_eq_getElem?, List.getD_eq_getElem?_getD]
theorem packP_zero (b : Bs) : packP b 0 = [bN b (b.length - 1) / 16] := by simp [packP, last_bN]
theorem packP_succ (b : Bs) (k : Nat) (h : k < b.length) : packP b (k + 1) = packP b k ++ [bN b (b.length - 1 - k) % 16] := by
  unfold packP
  rw [List.take_succ_eq_append_getElem (by simpa using h), bN_get _ _ (by omega)]
  simp
theorem packP_lt (b : Bs) (k : Nat) : ∀ q ∈ packP b k, q < 16 := by
  intro q hq
  simp only [packP, List.mem_cons, List.mem_map] at hq
  rcases hq with rfl | ⟨x, _, rfl⟩
  · have := (b.getLast?.getD 0).toNat_lt; omega
  · omega
theorem packS_eq (b : Bs) (m : Nat) (h1 : okSize b.length = true) (h2 : okSize m = true) : packS b m = fld m (packP b b.length) := by
  unfold packS packP
  rw [h1, h2, List.take_of_length_le (by simp)]; rfl

theorem packS_bad (b : Bs) (n : Int) (h : ¬ okSize b.length = true ∨ ¬ okSize n = true) : packS b n = [] := by
  unfold packS
  rcases h with h | h <;> simp [h]

theorem Wr.own {w : World} {Ba Bo g n : Nat} {p : List Nat} (h : Wr w Ba Bo g n p) (hn : n ≤ 1000) {B : Nat} (hB : B ≤ g) :
    w.ownsRow B 5 1 (.slice (some ⟨g, 0, none⟩) n n) n ((fld n p).map eb) :=
  ⟨by simp [fld_length], .inr ⟨g, n, _, rfl, hB, h.row, Nat.le_refl _, by unfold maxLen; omega, by simp [fld_length], by simpa using List.take_of_length_le (by simp [fld_length])⟩⟩

theorem Pack_any (w : World) (v : Value) (b : Bs) (n : Int) (hv : Reads w v b) :
    Calls Try.prog 18 #[v, .int .i64 n] w fun e w' => ∃ u, e = .returned u ∧ w'.ownsRow w.heap.size 5 1 u (packS b n).length ((packS b n).map eb) ∧ Chg [] w w' := by
  have hlen := hv.len_le
  unfold maxLen at hlen
  obtain ⟨L, hL⟩ : ∃ L, b.length = L := ⟨_, rfl⟩
  by_cases h1 : okSize L = true
  · by_cases h2 : okSize n = true
    · obtain ⟨m, rfl, hm1, hm2⟩ := ok_nat h2
      have HS := hid (packS_eq b m (by rw [hL]; exact h1) h2)
      have HP := hid (packP_succ b)
      have HZ := hid (packP_zero b)
      rw [hL] at HS HP HZ hlen
      obtain ⟨L', hL0, hL1, hL2⟩ := ok_nat h1
      obtain rfl : L = L' := by omega
      rcases hv.parts hL with ⟨_, h0, _⟩ | ⟨bb, off, cap, rfl, _, hc1, hc2, HC⟩
      · omega
      have hx := bN_lt b (L - 1)
      have hcl := HC.out (L - 1) (by omega)
      clear hv hL hL0
      go_enter Try.func18, Try.ntmps18
      go_wp2_with (first | (go_at_call 41; refine (inField_any _ _).mono ?_; rintro e w' ⟨rfl, rfl⟩))
      refine (writer_any m (by omega) w).mono ?_
      rintro e w1 ⟨rfl, hWr, hch, hsz⟩
      unfold wval
      have hcl1 := hch.cell hcl (by simp)
      go_wp2_with fail
      refine (put_int w1 _ _ _ m [] _ (by omega) (by omega) (by simp) hWr).mono ?_
      rintro e w2 ⟨rfl, hWr2, hch2, hsz2⟩
      have HW2 : Wr w2 (w.heap.size + 1 + 1) (w.heap.size + 1) w.heap.size m (packP b 0) := by
        rw [HZ.out]; simpa [show ((bN b (L - 1) : Int) / 16).toNat = bN b (L - 1) / 16 from by omega] using hWr2
      have hc2 : Chg [] w w2 := hch.then hch2 (by simp; omega)
      have hs2 : w2.heap.size = w.heap.size + 3 := by omega
      clear hWr hWr2 hch hch2 hsz hsz2 hcl hcl1
      go_wp2_with fail
      go_loopw [7] (fun i wr => ∃ k : Nat, k ≤ L ∧ i = .int .i64 (L - 1 - k) ∧ Wr wr (w.heap.size + 1 + 1) (w.heap.size + 1) w.heap.size m (packP b k) ∧ Chg [] w wr ∧ wr.heap.size = w.heap.size + 3) (fun i _ => (intOf i + 1).toNat)
      case atStart => exact ⟨0, by omega, by go_num, HW2, hc2, hs2⟩
      case round =>
        clear HW2 hc2 hs2
        obtain ⟨k, hk, rfl, hW, hc, hsz⟩ := hrel
        by_cases hlt : k < L
        · have hx2 := bN_lt b (L - 1 - k)
          have hcl := hc.cell (HC.out (L - 1 - k) (by omega)) (by simp)
          go_wp2_with fail
          refine (put_int wr _ _ _ m _ _ (by omega) (by omega) (packP_lt b k) hW).mono ?_
          rintro e w2 ⟨rfl, hWr2, hch2, hsz2⟩
          have HW2 : Wr w2 (w.heap.size + 1 + 1) (w.heap.size + 1) w.heap.size m (packP b (k + 1)) := by
            rw [HP.out k hlt]; simpa [show ((bN b (L - 1 - k) : Int) % 16).toNat = bN b (L - 1 - k) % 16 from by omega] using hWr2
          have hc2 : Chg [] w w2 := hc.then hch2 (by simp; omega)
          have hs2 : w2.heap.size = w.heap.size + 3 := by omega
          clear hWr2 hch2 hsz2 hsz hcl hW hc
          go_wp2_with fail
          go_roundw
          case rel => exact ⟨k + 1, by omega, by go_num, HW2, hc2, hs2⟩
          case measure => simp [intOf]; omega
        · obtain rfl : k = L := by omega
          clear HC hlt
          go_wp2_with fail
          go_returns
          refine ⟨_, rfl, ?_, hc⟩
          rw [HS.out, fld_length]
          exact Wr.own hW (by omega) (by omega)
    · have HS := hid (packS_bad b n (.inr h2))
      obtain ⟨a, cap, rfl⟩ := hv.shape hL
      go_enter Try.func18, Try.ntmps18
      go_wp2_with (first | (go_at_call 41; refine (inField_any _ _).mono ?_; rintro e w' ⟨rfl, rfl⟩))
      go_returns
      exact ⟨_, rfl, by rw [HS.out]; exact World.ownsRow_nil _ _ _ _, Chg.refl _ _⟩
  · have HS := hid (packS_bad b n (.inl (by rw [hL]; exact h1)))
    obtain ⟨a, cap, rfl⟩ := hv.shape hL
    go_enter Try.func18, Try.ntmps18
    go_wp2_with (first | (go_at_call 41; refine (inField_any _ _).mono ?_; rintro e w' ⟨rfl, rfl⟩))
    go_returns
    exact ⟨_, rfl, by rw [HS.out]; exact World.ownsRow_nil _ _ _ _, Chg.refl _ _⟩

end Go.Proofs.Ytmmhokcdchhciaa
