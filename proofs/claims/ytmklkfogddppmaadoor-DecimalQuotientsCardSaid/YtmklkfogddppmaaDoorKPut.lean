/- The closure that writes one digit of a field: its three ways, step by step. -/
import Derived.Test.YtmklkfogddppmaaDoorProg
import Derived.Test.YtmklkfogddppmaaDoorKFrameB
import Derived.Test.YtmklkfogddppmaaDoorKSpecB
namespace Go.Proofs.YtmklkfogddppmaaDoor
open Go.RowKit
set_option linter.unusedVariables false

section
variable (w : World) (Ba Bo g n : Nat) (a x d : Int)

theorem put_none (h0 : a < 0) (ca : w.cell? ⟨Ba, 0, none⟩ = some (.int .i64 a)) :
    Calls Tryd.prog 89 #[.int .u8 d, .pointer (some ⟨Ba, 0, none⟩), .pointer (some ⟨Bo, 0, none⟩)] w fun e w' => e = .returned (.tuple #[]) ∧ w' = w := by
  go_enter Tryd.func89, Tryd.ntmps89
  go_wp2
  exact bodyPost_ret (v := .tuple #[]) (results_none rfl _ _ _) rfl ⟨rfl, rfl⟩

theorem put_odd (h0 : 0 ≤ a) (h1 : a ≤ 1000) (hodd : (a % 2 == 1) = true) (hi : 0 ≤ a / 2 ∧ a / 2 < n) (hx : 0 ≤ x ∧ x < 256) (hd : 0 ≤ d ∧ d < 256)
    (ca : w.cell? ⟨Ba, 0, none⟩ = some (.int .i64 a)) (fa : w.frozen? ⟨Ba, 0, none⟩ = false) (co : w.cell? ⟨Bo, 0, none⟩ = some (.slice (some ⟨g, 0, none⟩) n n))
    (cx : w.cell? ⟨g, (a / 2).toNat, none⟩ = some (.int .u8 x)) (fx : w.frozen? ⟨g, (a / 2).toNat, none⟩ = false) (hne : g ≠ Ba) :
    Calls Tryd.prog 89 #[.int .u8 d, .pointer (some ⟨Ba, 0, none⟩), .pointer (some ⟨Bo, 0, none⟩)] w fun e w' => e = .returned (.tuple #[]) ∧
      w' = (w.setCell ⟨g, (a / 2).toNat, none⟩ (.int .u8 (bits .or .u8 x d))).setCell ⟨Ba, 0, none⟩ (.int .i64 (a - 1)) := by
  go_enter Tryd.func89, Tryd.ntmps89
  go_wp2
  go_end0
  exact ⟨rfl, rfl⟩

theorem put_even (h0 : 0 ≤ a) (h1 : a ≤ 1000) (heven : (a % 2 == 1) = false) (hi : 0 ≤ a / 2 ∧ a / 2 < n) (hx : 0 ≤ x ∧ x < 256) (hd : 0 ≤ d ∧ d < 16)
    (ca : w.cell? ⟨Ba, 0, none⟩ = some (.int .i64 a)) (fa : w.frozen? ⟨Ba, 0, none⟩ = false) (co : w.cell? ⟨Bo, 0, none⟩ = some (.slice (some ⟨g, 0, none⟩) n n))
    (cx : w.cell? ⟨g, (a / 2).toNat, none⟩ = some (.int .u8 x)) (fx : w.frozen? ⟨g, (a / 2).toNat, none⟩ = false) (hne : g ≠ Ba) :
    Calls Tryd.prog 89 #[.int .u8 d, .pointer (some ⟨Ba, 0, none⟩), .pointer (some ⟨Bo, 0, none⟩)] w fun e w' => e = .returned (.tuple #[]) ∧
      w' = (w.setCell ⟨g, (a / 2).toNat, none⟩ (.int .u8 (bits .or .u8 x (d * 16)))).setCell ⟨Ba, 0, none⟩ (.int .i64 (a - 1)) := by
  go_enter Tryd.func89, Tryd.ntmps89
  go_wp2
  go_end0
  exact ⟨rfl, rfl⟩

end
end Go.Proofs.YtmklkfogddppmaaDoor

/- The closure that writes one digit of a field: after the digits p the row holds the field of p. -/
namespace Go.Proofs.YtmklkfogddppmaaDoor
open Go.RowKit
set_option linter.unusedVariables false

/-- Where the writer of a field of n bytes stands after the digits p. -/
def atOf (n : Nat) (p : List Nat) : Int := if p.length ≤ 2 * n then 2 * (n : Int) - 1 - p.length else -1

/-- The writer's blocks: where it stands (Ba), its slice (Bo), the row (g). -/
structure Wr (w : World) (Ba Bo g n : Nat) (p : List Nat) : Prop where
  at_ : w.heap[Ba]? = some (.cells #[.int .i64 (atOf n p)] 3 (0, 0))
  out : w.heap[Bo]? = some (.cells #[.slice (some ⟨g, 0, none⟩) n n] 22 (0, 0))
  row : w.heap[g]? = some (.cells ((fld n p).map eb).toArray 5 (0, 0))

theorem Wr.keep {w w' : World} {Ba Bo g n : Nat} {p : List Nat} (h : Wr w Ba Bo g n p) {L : List Nat} (hc : Chg L w w') (h1 : Ba ∉ L) (h2 : Bo ∉ L) (h3 : g ∉ L) : Wr w' Ba Bo g n p :=
  ⟨hc.heap h.at_ h1, hc.heap h.out h2, hc.heap h.row h3⟩

theorem toNat_ofNat {n : Nat} (h : n < 256) : (UInt8.ofNat n).toNat = n := by simp; omega
theorem or_shift (a b : Nat) (ha : a < 16) (hb : b < 16) : a ||| b * 16 = 16 * b + a := by
  have h := Nat.shiftLeft_add_eq_or_of_lt (i := 4) (b := a) ha b
  rw [Nat.shiftLeft_eq] at h
  rw [Nat.or_comm, ← h]; omega

theorem row_set (n : Nat) (p : List Nat) (i : Nat) (x : UInt8) : (((fld n p).map eb).toArray).setIfInBounds i (eb x) = (((fld n p).set i x).map eb).toArray := by
  simp [List.map_set]

theorem put_any (w : World) (Ba Bo g n : Nat) (p : List Nat) (d : Nat) (hn : n ≤ 16) (hd : d < 16) (hp : ∀ q ∈ p, q < 16) (h : Wr w Ba Bo g n p) :
    Calls Tryd.prog 89 #[.int .u8 (d : Int), .pointer (some ⟨Ba, 0, none⟩), .pointer (some ⟨Bo, 0, none⟩)] w fun e w' => e = .returned (.tuple #[]) ∧
      Wr w' Ba Bo g n (p ++ [d]) ∧ Chg [Ba, g] w w' ∧ w'.heap.size = w.heap.size := by
  have hga : g ≠ Ba := fun e => by have h1 := h.row; have h2 := h.at_; rw [e, h2] at h1; simp at h1
  have hgo : g ≠ Bo := fun e => by have h1 := h.row; have h2 := h.out; rw [e, h2] at h1; simp at h1
  have hao : Ba ≠ Bo := fun e => by have h1 := h.at_; have h2 := h.out; rw [e, h2] at h1; simp at h1
  by_cases hfull : 2 * n ≤ p.length
  · have hat : atOf n p = -1 := by unfold atOf; split <;> omega
    have hat' : atOf n (p ++ [d]) = -1 := by unfold atOf; rw [List.length_append, List.length_singleton, if_neg (by omega)]
    refine (put_none w Ba Bo (-1) d (by omega) (cell_of_one (hat ▸ h.at_))).mono ?_
    rintro e w' ⟨rfl, rfl⟩
    refine ⟨rfl, ⟨?_, h.out, ?_⟩, Chg.refl _ _, rfl⟩
    · rw [hat', ← hat]; exact h.at_
    · rw [fld_snoc_full n p d hfull]; exact h.row
  · have hat : atOf n p = 2 * (n : Int) - 1 - p.length := by unfold atOf; rw [if_pos (by omega)]
    have hat' : atOf n (p ++ [d]) = atOf n p - 1 := by rw [hat]; unfold atOf; rw [List.length_append, List.length_singleton, if_pos (by omega)]; omega
    have fin : ∀ (i : Nat) (y : UInt8), fld n (p ++ [d]) = (fld n p).set i y →
        let w' := (w.setCell ⟨g, i, none⟩ (eb y)).setCell ⟨Ba, 0, none⟩ (.int .i64 (atOf n p - 1))
        Wr w' Ba Bo g n (p ++ [d]) ∧ Chg [Ba, g] w w' ∧ w'.heap.size = w.heap.size := by
      intro i y hy
      refine ⟨⟨?_, ?_, ?_⟩, (Chg.setCell w (.inl (by simp)) _).trans (Chg.setCell _ (.inl (by simp)) _), by simp⟩
      · rw [hat']; exact one_setCell ((heap_setCell_other w _ Ba _ (Ne.symm hga)).trans h.at_)
      · rw [heap_setCell_other _ _ Bo _ (Ne.symm hao), heap_setCell_other _ _ Bo _ (Ne.symm hgo)]; exact h.out
      · rw [heap_setCell_other _ _ g _ hga, heap_setCell_same w g i _ _ _ h.row, hy, row_set]
    have hcx : ∀ i x, (fld n p)[i]? = some x → w.cell? ⟨g, i, none⟩ = some (eb x) := fun i x hx => by
      rw [cell_of_row w g i _ _ _ h.row]; simp [hx]
    obtain ⟨j, hj | hj⟩ : ∃ j, p.length = 2 * j ∨ p.length = 2 * j + 1 := ⟨p.length / 2, by omega⟩
    · refine (put_odd w Ba Bo g n (atOf n p) 0 d (by omega) (by omega) (by rw [beq_iff_eq]; omega) (by omega) (by omega) (by omega) (cell_of_one h.at_) (free_of_one h.at_) (cell_of_one h.out) ?_ (frozen_of_row _ _ _ _ _ h.row) hga).mono ?_
      · rw [show (atOf n p / 2).toNat = n - 1 - j from by omega]
        exact hcx _ 0 (fld_at_even n p j hj (by omega))
      · rintro e w' ⟨rfl, rfl⟩
        have hb : bits .or .u8 0 (d : Int) = ((UInt8.ofNat d).toNat : Int) := by
          rw [show (0 : Int) = ((0 : Nat) : Int) from rfl, u8_or_nat _ _ (by omega) (by omega), Nat.zero_or, toNat_ofNat (by omega)]
        rw [hb, show (atOf n p / 2).toNat = n - 1 - j from by omega]
        exact ⟨rfl, fin _ _ (fld_snoc_even n p d j hj (by omega))⟩
    · have hq : p.getD (2 * j) 0 < 16 := by
        rw [List.getD_eq_getElem?_getD, List.getElem?_eq_getElem (by omega)]; exact hp _ (List.getElem_mem _)
      generalize hqq : p.getD (2 * j) 0 = q at *
      refine (put_even w Ba Bo g n (atOf n p) q d (by omega) (by omega) (by rw [beq_eq_false_iff_ne]; omega) (by omega) (by omega) (by omega) (cell_of_one h.at_) (free_of_one h.at_) (cell_of_one h.out) ?_ (frozen_of_row _ _ _ _ _ h.row) hga).mono ?_
      · rw [show (atOf n p / 2).toNat = n - 1 - j from by omega]
        have := hcx _ _ (fld_at_odd n p j hj (by omega))
        rw [this, eb, hqq, toNat_ofNat (by omega)]
      · rintro e w' ⟨rfl, rfl⟩
        have hb : bits .or .u8 (q : Int) ((d : Int) * 16) = ((UInt8.ofNat (16 * d + q)).toNat : Int) := by
          rw [show (d : Int) * 16 = ((d * 16 : Nat) : Int) from by omega, u8_or_nat _ _ (by omega) (by omega), or_shift _ _ hq hd, toNat_ofNat (by omega)]
        rw [hb, show (atOf n p / 2).toNat = n - 1 - j from by omega]
        exact ⟨rfl, fin _ _ (by rw [fld_snoc_odd n p d j hj (by omega), hqq])⟩

theorem put_int (w : World) (Ba Bo g n : Nat) (p : List Nat) (d : Int) (hn : n ≤ 16) (hd : 0 ≤ d ∧ d < 16) (hp : ∀ q ∈ p, q < 16) (h : Wr w Ba Bo g n p) :
    Calls Tryd.prog 89 #[.int .u8 d, .pointer (some ⟨Ba, 0, none⟩), .pointer (some ⟨Bo, 0, none⟩)] w fun e w' => e = .returned (.tuple #[]) ∧
      Wr w' Ba Bo g n (p ++ [d.toNat]) ∧ Chg [Ba, g] w w' ∧ w'.heap.size = w.heap.size := by
  obtain ⟨k, rfl⟩ := Int.eq_ofNat_of_zero_le hd.1
  exact put_any w Ba Bo g n p k hn (by omega) hp h

end Go.Proofs.YtmklkfogddppmaaDoor
