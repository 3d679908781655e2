/- Shift of jobshop/decimal. -/
import Derived.Deep.LoopGhost
import Derived.Test.YtmklkfogddppmaaDoorKDZap
namespace Go.Proofs.YtmklkfogddppmaaDoor
open Go.RowKit Go.Shelf
set_option linter.unusedVariables false
set_option linter.unusedSimpArgs false

/-- P4.5: the value that is shifted and rounded -/
def shv (v : Nat) (n round : Int) : Nat := if 0 ≤ n then v * 10 ^ n.toNat else v / 10 ^ (-n).toNat + (if 10 ≤ ((v / 10 ^ ((-n).toNat - 1) % 10 : Nat) : Int) + round then 1 else 0)
def shiftF (a : Bs) (n round : Int) : Bs × Int × Int :=
  if okSize a.length && decide (-32 ≤ n) && decide (n ≤ 31) then (if fok a && decide (0 ≤ round) && decide (round ≤ 9) then finF (rn a, shv (rv a) n round) a.length else ([], 0, 7)) else ([], 0, 6)

theorem dec_shift (v k : Nat) (h : v ≠ 0) : Lib.decDigits (v * 10 ^ k) ++ [48] = Lib.decDigits (v * 10 ^ (k + 1)) := by
  have hp : 0 < 10 ^ k := Nat.pow_pos (by decide)
  have h1 : v * 10 ^ (k + 1) = v * 10 ^ k * 10 := by rw [Nat.pow_succ, Nat.mul_assoc]
  have h2 : 0 < v * 10 ^ k := Nat.mul_pos (by omega) hp
  rw [h1, dec_big (u := v * 10 ^ k * 10) (by omega), Nat.mul_div_cancel _ (by decide), Nat.mul_mod_left]; rfl

set_option maxHeartbeats 1000000 in
theorem done_any (neg : Bool) (v N : Nat) (X A : Nat) (p : Option Addr) (ca : Nat) (w : World) (h1 : 1 ≤ N) (h2 : N ≤ 16) (hv : (Lib.decDigits v).length ≤ 1000)
    (c0 : w.cell? ⟨X, 0, none⟩ = some (.bool neg)) (c1 : w.cell? ⟨A, 0, none⟩ = some (.slice p N ca)) :
    Calls Tryd.prog 58 #[.string ⟨(Lib.decDigits v).toArray⟩, .pointer (some ⟨X, 0, none⟩), .pointer (some ⟨A, 0, none⟩)] w fun e w' =>
      ∃ u, e = .returned (.tuple #[u, .int .i64 (finC neg v N), .int .i64 (finO v N)]) ∧ w'.ownsRow w.heap.size 5 1 u N ((finS neg v N).map eb) ∧ Chg [] w w' := by
  have F := fun W => finish_any neg v N W h1 h2 hv
  generalize (⟨(Lib.decDigits v).toArray⟩ : ByteArray) = S at *
  go_enter Tryd.func58, Tryd.ntmps58
  go_wp2_with (go_at_call 51; refine (F _).mono ?_; rintro e w6 ⟨u, rfl, hO, hC⟩)
  go_returns
  exact ⟨u, rfl, hO, hC⟩

set_option maxHeartbeats 1000000 in
theorem Shift_bad (w : World) (p : Option Addr) (L ca : Nat) (n round : Int) (hb : (okSize L && decide (-32 ≤ n) && decide (n ≤ 31)) = false) :
    Calls Tryd.prog 32 #[.slice p L ca, .int .i64 n, .int .i64 round] w fun e w' => e = .returned (.tuple #[.slice none 0 0, .int .i64 0, .int .i64 6]) ∧ Chg [] w w' := by
  cases hs : okSize (L : Int)
  · clear hb
    go_enter Tryd.func32, Tryd.ntmps32
    go_wp2_with (go_at_call 53; refine (dsize_any _ _).mono ?_; rintro e w2 ⟨rfl, rfl⟩; rw [hs])
    go_returns
    exact ⟨rfl, Chg.alloc _ _ _⟩
  · by_cases h1 : n < -32
    · clear hb
      go_enter Tryd.func32, Tryd.ntmps32
      go_wp2_with (go_at_call 53; refine (dsize_any _ _).mono ?_; rintro e w2 ⟨rfl, rfl⟩; rw [hs])
      go_returns
      exact ⟨rfl, Chg.alloc _ _ _⟩
    · have h2 : 31 < n := by rw [hs, decide_eq_true (by omega)] at hb; simp at hb; omega
      clear hb
      go_enter Tryd.func32, Tryd.ntmps32
      go_wp2_with (go_at_call 53; refine (dsize_any _ _).mono ?_; rintro e w2 ⟨rfl, rfl⟩; rw [hs])
      go_returns
      exact ⟨rfl, Chg.alloc _ _ _⟩

set_option maxHeartbeats 1000000 in
theorem Shift_data (w : World) (va : Value) (a : Bs) (n round : Int) (hva : Reads w va a) (hs : okSize a.length = true) (h1 : ¬ n < -32) (h2 : ¬ 31 < n) (hb : (fok a && decide (0 ≤ round) && decide (round ≤ 9)) = false) :
    Calls Tryd.prog 32 #[va, .int .i64 n, .int .i64 round] w fun e w' => e = .returned (.tuple #[.slice none 0 0, .int .i64 0, .int .i64 7]) ∧ Chg [] w w' := by
  have R := fun (W : World) (hc : Chg [] w W) => read_any W va a (hva.keep hc (by simp))
  obtain ⟨p, ca, rfl⟩ := hva.shape (L := a.length) rfl
  obtain ⟨xh, xl, -, -, -, q2⟩ := num_parts (rn a) (rv a) (by have := rv_lt a; omega)
  rw [q2] at R
  clear q2 hva
  cases hf : fok a
  · rw [hf] at R
    clear hb
    go_enter Tryd.func32, Tryd.ntmps32
    go_wp2_with (first | (go_at_call 53; refine (dsize_any _ _).mono ?_; rintro e w2 ⟨rfl, rfl⟩; rw [hs]) | (go_at_call 57; refine (R _ (Chg.alloc _ _ _)).mono ?_; rintro e w3 ⟨rfl, hc⟩))
    go_returns
    exact ⟨rfl, ((Chg.alloc _ _ _).trans hc).trans (Chg.alloc _ _ _)⟩
  · rw [hf] at R
    by_cases h3 : round < 0
    · clear hb
      go_enter Tryd.func32, Tryd.ntmps32
      go_wp2_with (first | (go_at_call 53; refine (dsize_any _ _).mono ?_; rintro e w2 ⟨rfl, rfl⟩; rw [hs]) | (go_at_call 57; refine (R _ (Chg.alloc _ _ _)).mono ?_; rintro e w3 ⟨rfl, hc⟩))
      go_returns
      exact ⟨rfl, ((Chg.alloc _ _ _).trans hc).trans (Chg.alloc _ _ _)⟩
    · have h4 : 9 < round := by rw [hf, decide_eq_true (by omega)] at hb; simp at hb; omega
      clear hb
      go_enter Tryd.func32, Tryd.ntmps32
      go_wp2_with (first | (go_at_call 53; refine (dsize_any _ _).mono ?_; rintro e w2 ⟨rfl, rfl⟩; rw [hs]) | (go_at_call 57; refine (R _ (Chg.alloc _ _ _)).mono ?_; rintro e w3 ⟨rfl, hc⟩))
      go_returns
      exact ⟨rfl, ((Chg.alloc _ _ _).trans hc).trans (Chg.alloc _ _ _)⟩

set_option maxHeartbeats 1000000 in
theorem Shift_left (w : World) (va : Value) (a : Bs) (n : Nat) (round : Int) (hva : Reads w va a) (ht : Tab w) (hs : okSize a.length = true) (hn : n ≤ 31) (hf : fok a = true) (hr1 : 0 ≤ round) (hr2 : round ≤ 9) :
    Calls Tryd.prog 32 #[va, .int .i64 n, .int .i64 round] w fun e w' => ∃ u, e = .returned (.tuple #[u, .int .i64 (finC (rn a) (rv a * 10 ^ n) a.length), .int .i64 (finO (rv a * 10 ^ n) a.length)]) ∧
      w'.ownsRow w.heap.size 5 1 u a.length ((finS (rn a) (rv a * 10 ^ n) a.length).map eb) ∧ Chg [] w w' := by
  have R := fun (W : World) (hc : Chg [] w W) => read_any W va a (hva.keep hc (by simp))
  obtain ⟨p, ca, rfl⟩ := hva.shape (L := a.length) rfl
  have hlt := rv_lt a
  obtain ⟨xh, xl, -, -, -, q2⟩ := num_parts (rn a) (rv a) (by omega)
  have D := fun W hW => ddigits_num (rn a) (rv a) W (by omega) hW
  rw [q2, hf] at R
  rw [q2] at D
  have hN : 1 ≤ a.length ∧ a.length ≤ 16 := by unfold okSize at hs; simp at hs; omega
  have HT := hid ht
  clear q2 hva hf ht
  have e1 : ¬ (n : Int) < -32 := by omega
  have e2 : ¬ (31 : Int) < (n : Int) := by omega
  have e3 : ¬ round < 0 := by omega
  have e4 : ¬ (9 : Int) < round := by omega
  have e5 : (0 : Int) ≤ (n : Int) := by omega
  generalize a.length = N at *
  generalize rn a = an at *
  generalize rv a = v at *
  have hlen : ∀ k, k ≤ n → (Lib.decDigits (v * 10 ^ k)).length ≤ 100 := fun k hk => by
    refine (dec_len _ 100 (by omega)).2 ?_
    have h1 : v * 10 ^ k < 10 ^ 31 * 10 ^ k := Nat.mul_lt_mul_of_pos_right hlt (Nat.pow_pos (by decide))
    rw [← Nat.pow_add] at h1
    exact Nat.lt_of_lt_of_le h1 (Nat.pow_le_pow_right (by decide) (by omega))
  have DN := fun X A W c0 c1 => done_any an (v * 10 ^ n) N X A p ca W hN.1 hN.2 (Nat.le_trans (hlen n (Nat.le_refl _)) (by omega)) c0 c1
  have HL := hid hlen
  clear hlen hlt
  generalize finC an (v * 10 ^ n) N = C at *
  generalize finO (v * 10 ^ n) N = O at *
  generalize finS an (v * 10 ^ n) N = F at *
  have HDN := hid DN
  clear DN
  go_enter Tryd.func32, Tryd.ntmps32
  go_upto_region 8 with (first | (go_at_call 53; refine (dsize_any _ _).mono ?_; rintro e w2 ⟨rfl, rfl⟩; rw [hs]) | (go_at_call 57; refine (R _ (Chg.alloc _ _ _)).mono ?_; rintro e w3 ⟨rfl, hc⟩))
  have HX := hid (heap_alloc_new w3 (.cells #[.bool an, .int .u64 (xh : Int), .int .u64 (xl : Int)] 43 (0, 0)))
  have HA := hid (al_old (o := .cells #[.bool an, .int .u64 (xh : Int), .int .u64 (xl : Int)] 43 (0, 0)) (hc.heap (heap_alloc_new w (.cells #[.slice p N ca] 22 (0, 0))) (by simp)))
  have hc2 := ((Chg.alloc [] w _).trans hc).trans (Chg.alloc [] w3 (.cells #[.bool an, .int .u64 (xh : Int), .int .u64 (xl : Int)] 43 (0, 0)))
  clear hc R
  generalize w3.alloc (.cells #[.bool an, .int .u64 (xh : Int), .int .u64 (xl : Int)] 43 (0, 0)) = W1 at *
  obtain ⟨c0, c1, c2⟩ := three_cells HX.out
  go_upto_region 9 with (go_at_call 39; refine (D _ (HT.out.keep hc2)).mono ?_; rintro e w4 ⟨rfl, hc3⟩)
  have hc4 := hc2.trans hc3
  have HX4 := hid (hc3.heap HX.out (by simp))
  have HA4 := hid (hc3.heap HA.out (by simp))
  clear c0 c1 c2 hc2 hc3 HX HA D
  have hAc : w4.cell? ⟨w.heap.size, 0, none⟩ = some (.slice p N ca) := cell_of_row _ _ 0 _ _ _ HA4.out
  obtain ⟨c0, c1, c2⟩ := three_cells HX4.out
  go_wp2_with (fail)
  go_loopw [12, 13] (fun s i wr => ∃ k : Nat, k ≤ n ∧ i = .int .i64 k ∧ s = .string ⟨(Lib.decDigits (v * 10 ^ k)).toArray⟩ ∧ wr = w4) (fun _ i _ => n - (intOf i).toNat)
  case atStart => exact ⟨0, by omega, rfl, by simp, rfl⟩
  case round =>
    obtain ⟨k, hk, rfl, rfl, rfl⟩ := hrel
    have hE : ((⟨(Lib.decDigits (v * 10 ^ k)).toArray⟩ : ByteArray).toList == [48]) = decide (v * 10 ^ k = 0) := by
      rw [ByteArray.toList_eq, Bool.eq_iff_iff, beq_iff_eq, decide_eq_true_iff, ← dec_zero_iff]
    have hp : 0 < 10 ^ k := Nat.pow_pos (by decide)
    by_cases hv0 : v = 0
    · have hDN := HDN.out _ _ wr c0 hAc
      rw [hv0, Nat.zero_mul] at hDN hE ⊢
      rw [decide_eq_true rfl] at hE
      generalize (⟨(Lib.decDigits 0).toArray⟩ : ByteArray) = S at *
      by_cases hkn : (k : Int) < (n : Int)
      · go_wp2_with (go_at_call 58; refine hDN.mono ?_; rintro e w6 ⟨u, rfl, hO, hC⟩)
        go_returns
        exact ⟨u, rfl, own_base hO hc4.size, hc4.trans hC⟩
      · go_wp2_with (go_at_call 58; refine hDN.mono ?_; rintro e w6 ⟨u, rfl, hO, hC⟩)
        go_returns
        exact ⟨u, rfl, own_base hO hc4.size, hc4.trans hC⟩
    · rw [decide_eq_false (by have := Nat.mul_pos (Nat.pos_of_ne_zero hv0) hp; omega)] at hE
      by_cases hkn : k < n
      · have hkI : (k : Int) < (n : Int) := by omega
        have hcat : (⟨(Lib.decDigits (v * 10 ^ k)).toArray⟩ : ByteArray) ++ ⟨#[48]⟩ = ⟨(Lib.decDigits (v * 10 ^ (k + 1))).toArray⟩ := by
          rw [← dec_shift v k hv0]; exact ba_app _ _
        have hsz : (⟨(Lib.decDigits (v * 10 ^ k)).toArray⟩ : ByteArray).size ≤ 100 := HL.out k hk
        have HCAT := hid hcat
        clear hcat hp hv0
        generalize (⟨(Lib.decDigits (v * 10 ^ k)).toArray⟩ : ByteArray) = S at *
        go_wp2_with (fail)
        go_roundw
        case measure => first | omega | (simp [intOf]; omega)
        case rel => exact ⟨k + 1, by omega, by go_num, by rw [HCAT.out], by first | rfl | trivial⟩
      · have hkI : ¬ (k : Int) < (n : Int) := by omega
        obtain rfl : k = n := by omega
        have hDN := HDN.out _ _ wr c0 hAc
        generalize (⟨(Lib.decDigits (v * 10 ^ k)).toArray⟩ : ByteArray) = S at *
        go_wp2_with (go_at_call 58; refine hDN.mono ?_; rintro e w6 ⟨u, rfl, hO, hC⟩)
        go_returns
        exact ⟨u, rfl, own_base hO hc4.size, hc4.trans hC⟩

end Go.Proofs.YtmklkfogddppmaaDoor

/- Shift of jobshop/decimal, to the right. -/
namespace Go.Proofs.YtmklkfogddppmaaDoor
open Go.RowKit Go.Shelf
set_option linter.unusedVariables false
set_option linter.unusedSimpArgs false

/-- block X holds the number v -/
def NB (w : World) (X : Nat) (neg : Bool) (v : Nat) : Prop := ∃ hi lo : Nat, num neg v = .agg #[.bool neg, .int .u64 (hi : Int), .int .u64 (lo : Int)] ∧ w.heap[X]? = some (.cells #[.bool neg, .int .u64 (hi : Int), .int .u64 (lo : Int)] 43 (0, 0))

set_option maxHeartbeats 2000000 in
set_option maxRecDepth 100000 in
theorem Shift_right (w : World) (va : Value) (a : Bs) (n : Int) (m : Nat) (round : Int) (hva : Reads w va a) (ht : Tab w) (hs : okSize a.length = true) (hn1 : n ≤ -(m : Int) - 1) (hn2 : -(m : Int) - 1 ≤ n) (hm : m ≤ 31) (hf : fok a = true) (hr1 : 0 ≤ round) (hr2 : round ≤ 9)
    (V : Nat) (hV : V = rv a / 10 ^ m / 10 + (if 10 ≤ ((rv a / 10 ^ m % 10 : Nat) : Int) + round then 1 else 0)) :
    Calls Tryd.prog 32 #[va, .int .i64 n, .int .i64 round] w fun e w' => ∃ u, e = .returned (.tuple #[u, .int .i64 (finC (rn a) V a.length), .int .i64 (finO V a.length)]) ∧
      w'.ownsRow w.heap.size 5 1 u a.length ((finS (rn a) V a.length).map eb) ∧ Chg [] w w' := by
  have R := fun (W : World) (hc : Chg [] w W) => read_any W va a (hva.keep hc (by simp))
  obtain ⟨p, ca, rfl⟩ := hva.shape (L := a.length) rfl
  have hlt := rv_lt a
  obtain ⟨xh, xl, -, -, -, q2⟩ := num_parts (rn a) (rv a) (by omega)
  rw [q2, hf] at R
  have Q2 := hid q2
  have hN : 1 ≤ a.length ∧ a.length ≤ 16 := by unfold okSize at hs; simp at hs; omega
  have HT := hid ht
  have HV := hid hV
  clear q2 hva hf ht hV
  have e1 : ¬ n < -32 := by omega
  have e2 : ¬ (31 : Int) < n := by omega
  have e3 : ¬ round < 0 := by omega
  have e4 : ¬ (9 : Int) < round := by omega
  have e5 : ¬ (0 : Int) ≤ n := by omega
  generalize a.length = N at *
  generalize rn a = an at *
  generalize rv a = v at *
  have hle : ∀ k, v / 10 ^ k < 10 ^ 31 := fun k => Nat.lt_of_le_of_lt (Nat.div_le_self _ _) hlt
  have hVlt : V < 10 ^ 32 := by
    have h1 := hle m
    have h2 : v / 10 ^ m / 10 ≤ v / 10 ^ m := Nat.div_le_self _ _
    rw [HV.out]; split <;> omega
  have DN := fun X A W c0 c1 => done_any an V N X A p ca W hN.1 hN.2 (Nat.le_trans ((dec_len _ 32 (by omega)).2 hVlt) (by omega)) c0 c1
  have DG := fun W hW => ddigits_num an V W (by omega) hW
  have OV := fun W k => over_num an (v / 10 ^ k) 10 W (by have := hle k; omega) (by omega) (by omega)
  have PL := fun W => plus_num an (v / 10 ^ m / 10) 1 W (by have := hle m; have h2 : v / 10 ^ m / 10 ≤ v / 10 ^ m := Nat.div_le_self _ _; omega)
  have HLE := hid hle
  generalize finC an V N = C at *
  generalize finO V N = O at *
  generalize finS an V N = F at *
  have HDN := hid DN
  have HDG := hid DG
  have HOV := hid OV
  have HPL := hid PL
  have HVLT := hid hVlt
  clear DN DG OV PL hle hVlt hlt
  go_enter Tryd.func32, Tryd.ntmps32
  go_upto_region 14 with (first | (go_at_call 53; refine (dsize_any _ _).mono ?_; rintro e w2 ⟨rfl, rfl⟩; rw [hs]) | (go_at_call 57; refine (R _ (Chg.alloc _ _ _)).mono ?_; rintro e w3 ⟨rfl, hc⟩))
  have HX : Hid (NB (w3.alloc (.cells #[.bool an, .int .u64 (xh : Int), .int .u64 (xl : Int)] 43 (0, 0))) w3.heap.size an (v / 10 ^ 0)) := ⟨xh, xl, by rw [Nat.pow_zero, Nat.div_one]; exact Q2.out, heap_alloc_new w3 _⟩
  have HA := hid (al_old (o := .cells #[.bool an, .int .u64 (xh : Int), .int .u64 (xl : Int)] 43 (0, 0)) (hc.heap (heap_alloc_new w (.cells #[.slice p N ca] 22 (0, 0))) (by simp)))
  have hc2 := ((Chg.alloc [] w _).trans hc).trans (Chg.alloc [] w3 (.cells #[.bool an, .int .u64 (xh : Int), .int .u64 (xl : Int)] 43 (0, 0)))
  have HLT := hid (show w.heap.size < w3.heap.size from by have := hc.size; simp at this; omega)
  clear hc R
  generalize w3.alloc (.cells #[.bool an, .int .u64 (xh : Int), .int .u64 (xl : Int)] 43 (0, 0)) = W1 at *
  go_wp2_with (fail)
  go_loopw [67] (fun i wr => ∃ k : Nat, k ≤ m ∧ i = .int .i64 k ∧ Hid (NB wr w3.heap.size an (v / 10 ^ k)) ∧ Hid (wr.heap[w.heap.size]? = some (.cells #[.slice p N ca] 22 (0, 0))) ∧ Chg [] w wr) (fun i _ => m - (intOf i).toNat)
  case atStart => exact ⟨0, by omega, rfl, HX, HA, hc2⟩
  case round =>
    clear HX HA hc2
    obtain ⟨k, hk, rfl, HB, HA, hc⟩ := hrel
    obtain ⟨hi, lo, qn, hb⟩ := HB.out
    have hov := fun W => HOV.out W k
    rw [qn] at hov
    obtain ⟨hi2, lo2, -, -, -, qm⟩ := num_parts an (v / 10 ^ k / 10) (by have := HLE.out k; have h2 : v / 10 ^ k / 10 ≤ v / 10 ^ k := Nat.div_le_self _ _; omega)
    rw [qm] at hov
    have QM := hid qm
    have HB1 := hid hb
    clear qn qm hb HB
    obtain ⟨c0, c1, c2⟩ := three_cells HB1.out
    by_cases hkm : k < m
    · have hkI : (k : Int) < -n - 1 := by omega
      have hpow := hid (show v / 10 ^ k / 10 = v / 10 ^ (k + 1) from by rw [Nat.div_div_eq_div_mul, Nat.pow_succ])
      generalize v / 10 ^ k % 10 = r at *
      go_wp2_with (go_at_call 37; refine (hov _).mono ?_; rintro e w4 ⟨rfl, hc3⟩; obtain ⟨s0, s1, s2, s3, s4, s5, s6, s7⟩ := store3 (.bool an) (.int .u64 (hi2 : Int)) (.int .u64 (lo2 : Int)) (hc3.heap HB1.out (by simp)))
      go_roundw
      case measure => first | omega | (simp [intOf]; omega)
      case rel => exact ⟨k + 1, by omega, by go_num, ⟨hi2, lo2, by rw [← hpow.out]; exact QM.out, s6.out⟩, hid (s7.out.heap (hc3.heap HA.out (by simp)) (by have := HLT.out; simp; omega)), (hc.trans hc3).then s7.out (by have := HLT.out; simp; omega)⟩
    · obtain rfl : k = m := by omega
      have hkI : ¬ (k : Int) < -n - 1 := by omega
      have hrl : v / 10 ^ k % 10 < 10 := Nat.mod_lt _ (by decide)
      have hVV := HV.out
      have hpl := HPL.out
      have HVe := hid hVV
      clear hVV
      generalize v / 10 ^ k % 10 = r at *
      generalize v / 10 ^ k / 10 = q at *
      rw [QM.out] at hpl
      by_cases hrr : 10 ≤ (r : Int) + round
      · have hV1 : V = q + 1 := by rw [HVe.out, if_pos hrr]
        obtain ⟨hi3, lo3, -, -, -, qv⟩ := num_parts an V (by have := HVLT.out; omega)
        have hdg := HDG.out
        rw [← hV1, qv] at hpl
        rw [qv] at hdg
        clear hV1 qv
        go_upto_region 19 with (go_at_call 37; refine (hov _).mono ?_; rintro e w4 ⟨rfl, hc3⟩; obtain ⟨s0, s1, s2, s3, s4, s5, s6, s7⟩ := store3 (.bool an) (.int .u64 (hi2 : Int)) (.int .u64 (lo2 : Int)) (hc3.heap HB1.out (by simp)))
        have HB2 := s6
        have HA2 := hid (s7.out.heap (hc3.heap HA.out (by simp)) (by have := HLT.out; simp; omega))
        have hc4 := (hc.trans hc3).then s7.out (by have := HLT.out; simp; omega)
        clear s0 s1 s2 s3 s4 s5 s6 s7 hc3 hc c0 c1 c2 HB1 HA hov
        generalize (((w4.setCell ⟨w3.heap.size, 0, none⟩ (.bool an)).setCell ⟨w3.heap.size, 1, none⟩ (.int .u64 (hi2 : Int))).setCell ⟨w3.heap.size, 2, none⟩ (.int .u64 (lo2 : Int))) = W4 at *
        obtain ⟨c0, c1, c2⟩ := three_cells HB2.out
        go_upto_region 21 with (go_at_call 59; refine (hpl _).mono ?_; rintro e w5 ⟨rfl, hc5⟩; obtain ⟨s0, s1, s2, s3, s4, s5, s6, s7⟩ := store3 (.bool an) (.int .u64 (hi3 : Int)) (.int .u64 (lo3 : Int)) (hc5.heap HB2.out (by simp)))
        have HB3 := s6
        have HA3 := hid (s7.out.heap (hc5.heap HA2.out (by simp)) (by have := HLT.out; simp; omega))
        have hc6 := (hc4.trans hc5).then s7.out (by have := HLT.out; simp; omega)
        clear s0 s1 s2 s3 s4 s5 s6 s7 hc4 hc5 c0 c1 c2 HB2 HA2 hpl
        generalize (((w5.setCell ⟨w3.heap.size, 0, none⟩ (.bool an)).setCell ⟨w3.heap.size, 1, none⟩ (.int .u64 (hi3 : Int))).setCell ⟨w3.heap.size, 2, none⟩ (.int .u64 (lo3 : Int))) = W5 at *
        obtain ⟨c0, c1, c2⟩ := three_cells HB3.out
        go_wp2_with (first | (go_at_call 39; refine (hdg _ (HT.out.keep hc6)).mono ?_; rintro e w6 ⟨rfl, hc7⟩; obtain ⟨f0, f1, f2⟩ := three_cells (hc7.heap HB3.out (by simp)); have g0 := cell_of_row _ _ 0 _ _ _ (hc7.heap HA3.out (by simp))) | (go_at_call 58; refine (HDN.out _ _ w6 f0 g0).mono ?_; rintro e w7 ⟨u, rfl, hO, hC⟩))
        go_returns
        exact ⟨u, rfl, own_base hO (hc6.trans hc7).size, (hc6.trans hc7).trans hC⟩
      · have hV1 : V = q := by rw [HVe.out, if_neg hrr]; rfl
        have hdg := HDG.out
        rw [hV1, QM.out] at hdg
        rw [hV1] at HDN
        clear hV1 hpl
        go_upto_region 19 with (go_at_call 37; refine (hov _).mono ?_; rintro e w4 ⟨rfl, hc3⟩; obtain ⟨s0, s1, s2, s3, s4, s5, s6, s7⟩ := store3 (.bool an) (.int .u64 (hi2 : Int)) (.int .u64 (lo2 : Int)) (hc3.heap HB1.out (by simp)))
        have HB2 := s6
        have HA2 := hid (s7.out.heap (hc3.heap HA.out (by simp)) (by have := HLT.out; simp; omega))
        have hc4 := (hc.trans hc3).then s7.out (by have := HLT.out; simp; omega)
        clear s0 s1 s2 s3 s4 s5 s6 s7 hc3 hc c0 c1 c2 HB1 HA hov
        generalize (((w4.setCell ⟨w3.heap.size, 0, none⟩ (.bool an)).setCell ⟨w3.heap.size, 1, none⟩ (.int .u64 (hi2 : Int))).setCell ⟨w3.heap.size, 2, none⟩ (.int .u64 (lo2 : Int))) = W4 at *
        obtain ⟨c0, c1, c2⟩ := three_cells HB2.out
        go_wp2_with (first | (go_at_call 39; refine (hdg _ (HT.out.keep hc4)).mono ?_; rintro e w6 ⟨rfl, hc7⟩; obtain ⟨f0, f1, f2⟩ := three_cells (hc7.heap HB2.out (by simp)); have g0 := cell_of_row _ _ 0 _ _ _ (hc7.heap HA2.out (by simp))) | (go_at_call 58; refine (HDN.out _ _ w6 f0 g0).mono ?_; rintro e w7 ⟨u, rfl, hO, hC⟩))
        go_returns
        exact ⟨u, rfl, own_base hO (hc4.trans hc7).size, (hc4.trans hc7).trans hC⟩

theorem shv_right (v : Nat) (n : Int) (m : Nat) (round : Int) (h : n = -(m : Int) - 1) : shv v n round = v / 10 ^ m / 10 + (if 10 ≤ ((v / 10 ^ m % 10 : Nat) : Int) + round then 1 else 0) := by
  unfold shv
  rw [if_neg (by omega), show (-n).toNat = m + 1 from by omega, Nat.add_sub_cancel, Nat.pow_succ, Nat.div_div_eq_div_mul]

theorem Shift_any (w : World) (va : Value) (a : Bs) (n round : Int) (hva : Reads w va a) (ht : Tab w) :
    Calls Tryd.prog 32 #[va, .int .i64 n, .int .i64 round] w fun e w' => ∃ u, e = .returned (.tuple #[u, .int .i64 (shiftF a n round).2.1, .int .i64 (shiftF a n round).2.2]) ∧
      w'.ownsRow w.heap.size 5 1 u (shiftF a n round).1.length ((shiftF a n round).1.map eb) ∧ Chg [] w w' := by
  unfold shiftF
  cases hb : (okSize a.length && decide (-32 ≤ n) && decide (n ≤ 31))
  · obtain ⟨p, ca, rfl⟩ := hva.shape (L := a.length) rfl
    refine (Shift_bad w p a.length ca n round hb).mono ?_
    rintro e w' ⟨rfl, hc⟩
    exact ⟨_, rfl, World.ownsRow_nil _ _ _ _, hc⟩
  · rw [if_pos rfl]
    have hb2 := hb
    simp only [Bool.and_eq_true, decide_eq_true_eq] at hb2
    obtain ⟨⟨hs, h1⟩, h2⟩ := hb2
    cases hd : (fok a && decide (0 ≤ round) && decide (round ≤ 9))
    · refine (Shift_data w va a n round hva hs (by omega) (by omega) hd).mono ?_
      rintro e w' ⟨rfl, hc⟩
      exact ⟨_, rfl, World.ownsRow_nil _ _ _ _, hc⟩
    · rw [if_pos rfl]
      simp only [Bool.and_eq_true, decide_eq_true_eq] at hd
      obtain ⟨⟨hf, h3⟩, h4⟩ := hd
      have hL : ∀ V, (finF (rn a, V) a.length).1.length = a.length := fun V => by simp [finF, finS, fldN, fld_length]
      rw [hL]
      rcases Int.lt_or_le n 0 with hn | hn
      · obtain ⟨m, hm⟩ : ∃ m : Nat, n = -(m : Int) - 1 := ⟨(-n - 1).toNat, by omega⟩
        have hv := shv_right (rv a) n m round hm
        exact Shift_right w va a n m round hva ht hs (by omega) (by omega) (by omega) hf h3 h4 _ hv
      · obtain ⟨k, rfl⟩ := Int.eq_ofNat_of_zero_le hn
        have hv : shv (rv a) (k : Int) round = rv a * 10 ^ k := by unfold shv; rw [if_pos hn]; rfl
        rw [hv]
        exact Shift_left w va a k round hva ht hs (by omega) hf h3 h4

end Go.Proofs.YtmklkfogddppmaaDoor
