/- read of jobshop/decimal. -/
import Derived.Deep.LoopGhost
import Derived.Deep.QuietTactic
import Derived.BigQuiet
import Derived.Test.YtmklkfogddppmaaDoorKNum
import Derived.Test.YtmklkfogddppmaaDoorKDecode
import Derived.Test.YtmklkfogddppmaaDoorKDecB
namespace Go.Proofs.YtmklkfogddppmaaDoor
open Go.RowKit Go.Shelf
set_option linter.unusedVariables false
set_option linter.unusedSimpArgs false

/-- the value of a field's number -/
def fv (b : Bs) : Nat := val (nibr b).tail
/-- the sign of a field -/
def fneg (b : Bs) : Bool := (decS b).1.1
/-- whether a field holds a number -/
def fok (b : Bs) : Bool := (decS b).2

theorem fok_parts (b : Bs) (h : fok b = true) : okSize b.length = true ∧ (∀ q ∈ (nibr b).tail, q < 10) ∧ (decS b).1.2 = Lib.decDigits (fv b) ∧ fv b < 10 ^ 31 := by
  have h0 := h
  unfold fok decS at h
  simp only at h
  split at h
  · rename_i hc
    simp only [Bool.and_eq_true, decide_eq_true_eq, List.all_eq_true] at hc
    obtain ⟨⟨c1, c2⟩, c3⟩ := hc
    have hlt : ∀ q ∈ (nibr b).tail, q < 10 := fun q hq => by have := c3 q hq; omega
    have hlen : (nibr b).tail.length = 2 * b.length - 1 := by rw [List.length_tail, nibr_length]
    have hb : 1 ≤ b.length ∧ b.length ≤ 16 := by unfold okSize at c1; simp at c1; omega
    refine ⟨c1, hlt, ?_, ?_⟩
    · unfold decS
      simp only
      rw [if_pos (by simp only [Bool.and_eq_true, decide_eq_true_eq, List.all_eq_true]; exact ⟨⟨c1, c2⟩, c3⟩)]
      simp only
      exact strip_dec _ (by intro e; rw [e] at hlen; simp at hlen; omega) hlt
    · refine Nat.lt_of_lt_of_le (val_lt _ hlt) ?_
      rw [hlen]
      exact Nat.pow_le_pow_right (by decide) (by omega)
  · cases h
theorem fok_false (b : Bs) (h : fok b = false) : decS b = ((false, []), false) := by
  unfold fok at h
  unfold decS at h ⊢
  simp only at h ⊢
  split
  · rename_i hc; rw [if_pos hc] at h; cases h
  · rfl
theorem fok_true (b : Bs) (h : fok b = true) : decS b = ((fneg b, Lib.decDigits (fv b)), true) := by
  have := (fok_parts b h).2.2.1
  rw [← this, ← show fok b = true from h]; rfl

theorem valT_lt (l : Bs) (h : ∀ c ∈ l, 48 ≤ c.toNat ∧ c.toNat ≤ 57) : ∀ k, k ≤ l.length → valT (l.take k) < 10 ^ k
  | 0, _ => by simp [valT]
  | k + 1, hk => by
    have ih := valT_lt l h k (by omega)
    have := h l[k] (List.getElem_mem _)
    rw [List.take_succ_eq_append_getElem (by omega), valT_snoc, Nat.pow_succ]; omega
theorem valT_succ (l : Bs) (k : Nat) (hk : k < l.length) : valT (l.take (k + 1)) = valT (l.take k) * 10 + (bN l k - 48) := by
  rw [List.take_succ_eq_append_getElem hk, valT_snoc, bN_get l k hk]; omega

set_option maxHeartbeats 1000000 in
theorem read_bad (w : World) (v : Value) (b : Bs) (hv : Reads w v b) (hb : fok b = false) :
    Calls Tryd.prog 57 #[v] w fun e w' => e = .returned (.tuple #[num false 0, .bool false]) ∧ Chg [] w w' := by
  have hD := fun (w' : World) (hc : Chg [] w w') => Decode_any w' v b (hv.keep hc (by simp))
  rw [fok_false b hb] at hD
  go_enter Tryd.func57, Tryd.ntmps57
  go_upto_region 2 with (go_at_call 54; refine (hD _ (Chg.alloc _ _ _)).mono ?_; rintro e w2 ⟨rfl, hc⟩)
  have HB := hid (al_old (o := .cells #[.bool false, .string ⟨#[]⟩] 70 (0, 0)) (hc.heap (al_new rfl) (by simp)))
  have hc2 := ((Chg.alloc [] w _).trans hc).trans (Chg.alloc [] w2 (.cells #[.bool false, .string ⟨#[]⟩] 70 (0, 0)))
  clear hc
  generalize w2.alloc (.cells #[.bool false, .string ⟨#[]⟩] 70 (0, 0)) = W2 at *
  obtain ⟨s0, s1, s2, s3, s4, s5, s6, s7⟩ := store3 (.bool false) (.int .u64 0) (.int .u64 0) HB.out
  obtain ⟨d0, d1, d2⟩ := three_cells s6.out
  go_wp2_with (fail)
  refine ⟨by simp, ?_⟩
  refine ⟨.tuple #[num false 0, .bool false], ?_, rfl, hc2.then s7.out (by simp)⟩
  simp [num, results, Tryd.f57, go_sem, d0, d1, d2]

set_option maxHeartbeats 1000000 in
theorem read_good (w : World) (v : Value) (b : Bs) (hv : Reads w v b) (hb : fok b = true) :
    Calls Tryd.prog 57 #[v] w fun e w' => e = .returned (.tuple #[num (fneg b) (fv b), .bool true]) ∧ Chg [] w w' := by
  have hD := fun (w' : World) (hc : Chg [] w w') => Decode_any w' v b (hv.keep hc (by simp))
  rw [fok_true b hb] at hD
  have hlt := (fok_parts b hb).2.2.2
  obtain ⟨neg, hneg⟩ : ∃ x, fneg b = x := ⟨_, rfl⟩
  obtain ⟨V, hV⟩ : ∃ x, fv b = x := ⟨_, rfl⟩
  rw [hneg, hV] at hD ⊢
  rw [hV] at hlt
  have hlen := (dec_len V 31 (by omega)).2 hlt
  have hdig := dec_mem V
  have hval := valT_dec V
  have hSd : (⟨(Lib.decDigits V).toArray⟩ : ByteArray).data.toList = Lib.decDigits V := rfl
  have hSz : (⟨(Lib.decDigits V).toArray⟩ : ByteArray).size = (Lib.decDigits V).length := rfl
  generalize (⟨(Lib.decDigits V).toArray⟩ : ByteArray) = S at *
  generalize Lib.decDigits V = l at *
  clear hneg hV hlt hb
  go_enter Tryd.func57, Tryd.ntmps57
  go_upto_region 2 with (go_at_call 54; refine (hD _ (Chg.alloc _ _ _)).mono ?_; rintro e w2 ⟨rfl, hc⟩)
  have HB := hid (al_old (o := .cells #[.bool neg, .string S] 70 (0, 0)) (hc.heap (al_new rfl) (by simp)))
  have HC := hid (heap_alloc_new w2 (.cells #[.bool neg, .string S] 70 (0, 0)))
  have hc2 := ((Chg.alloc [] w _).trans hc).trans (Chg.alloc [] w2 (.cells #[.bool neg, .string S] 70 (0, 0)))
  have hge : w.heap.size + 1 ≤ w2.heap.size := by have := hc.size; simp at this; omega
  clear hc
  generalize w2.alloc (.cells #[.bool neg, .string S] 70 (0, 0)) = W2 at *
  generalize w2.heap.size = D at *
  have hDl := lt_of_block HC.out
  obtain ⟨x0, x1⟩ := two_cells HC.out
  go_upto_region 5 with (fail)
  have HB3 := hid (al_old (o := .cells #[.bool neg, .int .u64 0, .int .u64 0] 43 (0, 0)) HB.out)
  have HC3 := hid (al_old (o := .cells #[.bool neg, .int .u64 0, .int .u64 0] 43 (0, 0)) HC.out)
  have HX := hid (heap_alloc_new W2 (.cells #[.bool neg, .int .u64 0, .int .u64 0] 43 (0, 0)))
  have hc3 := hc2.trans (Chg.alloc [] W2 (.cells #[.bool neg, .int .u64 0, .int .u64 0] 43 (0, 0)))
  clear HB HC hc2 x0 x1
  generalize W2.alloc (.cells #[.bool neg, .int .u64 0, .int .u64 0] 43 (0, 0)) = W3 at *
  generalize W2.heap.size = X at *
  obtain ⟨x0, x1⟩ := two_cells HC3.out
  go_wp2_with (fail)
  go_loopw [22] (fun i wr => ∃ (k hi lo : Nat), k ≤ l.length ∧ i = .int .i64 k ∧ lo < 18446744073709551616 ∧ hi < 18446744073709551616 ∧ Hid (hi * 18446744073709551616 + lo = valT (l.take k)) ∧ Hid (wr.heap[X]? = some (.cells #[.bool neg, .int .u64 (hi : Int), .int .u64 (lo : Int)] 43 (0, 0))) ∧ Hid (wr.heap[D]? = some (.cells #[.bool neg, .string S] 70 (0, 0))) ∧ Hid (wr.heap[w.heap.size]? = some (.cells #[.bool false, .int .u64 0, .int .u64 0] 43 (0, 0))) ∧ Chg [] w wr) (fun i _ => l.length - (intOf i).toNat)
  case atStart => exact ⟨0, 0, 0, by omega, rfl, by omega, by omega, rfl, HX, HC3, HB3, hc3⟩
  case round =>
    clear HX HC3 HB3 hc3 x0 x1
    obtain ⟨k, hi, lo, hk, rfl, b1, b2, HV, HX, HC3, HB3, hc⟩ := hrel
    obtain ⟨y0, y1⟩ := two_cells HC3.out
    obtain ⟨c0, c1, c2⟩ := three_cells HX.out
    by_cases hkl : k < l.length
    · have hle := valT_lt l hdig (k + 1) (by omega)
      have hsu := valT_succ l k hkl
      have hb := ba_bN S k (by omega)
      have hd : 48 ≤ bN l k ∧ bN l k ≤ 57 := by rw [bN_get l k hkl]; exact hdig _ (List.getElem_mem _)
      have hp31 : 10 ^ (k + 1) ≤ 10 ^ 31 := Nat.pow_le_pow_right (by decide) (by omega)
      have hx : bN l k = S[k].toNat := by rw [← hb, hSd]
      rw [hx] at hd hsu
      clear hx hb
      obtain ⟨d, hdd⟩ : ∃ d, S[k].toNat - 48 = d := ⟨_, rfl⟩
      rw [hdd] at hsu
      have e0 : IntKind.u8.wrap ((S[k].toNat : Int) - 48) = (d : Int) := by rw [show ((S[k].toNat : Int) - 48) = (d : Int) from by omega]; simp [IntKind.wrap, IntKind.bits, IntKind.signed]; omega
      have e1 : IntKind.u64.wrap (d : Int) = (d : Int) := by rw [IntKind.wrap_u64]; omega
      have hklI : (k : Int) < (l.length : Int) := by omega
      obtain ⟨v0, hv0⟩ : ∃ v0, hi * 18446744073709551616 + lo = v0 := ⟨_, rfl⟩
      have hVV := HV.out
      rw [hv0] at hVV
      rw [← hVV] at hsu
      have t1 := fun W => times_num neg v0 10 W (by omega) (by omega) (by omega)
      obtain ⟨hi1, lo1, b3, b4, q1, q2⟩ := num_parts neg (v0 * 10) (by omega)
      have t2 := fun W => plus_num neg (v0 * 10) d W (by omega)
      obtain ⟨hi2, lo2, b5, b6, q3, q4⟩ := num_parts neg (v0 * 10 + d) (by omega)
      rw [num_of neg hi lo v0 b1 hv0.symm, q2] at t1
      rw [q2, q4] at t2
      have HV2 := hid (q3.symm.trans hsu.symm)
      clear hv0 hVV hsu HV q1 q2 q3 q4 hle hp31 hdd
      go_upto_region 9 with (go_at_call 45; refine (t1 _).mono ?_; rintro e w4 ⟨⟨ok, rfl⟩, hc4⟩; obtain ⟨s0, s1, s2, s3, s4, s5, s6, s7⟩ := store3 (.bool neg) (.int .u64 (hi1 : Int)) (.int .u64 (lo1 : Int)) (hc4.heap HX.out (by simp)))
      have HX4 := s6
      have hc5 : Chg [] w _ := (hc.trans hc4).then s7.out (by simp; omega)
      have HC4 := hid (s7.out.heap (hc4.heap HC3.out (by simp)) (by simp; omega))
      have HB4 := hid (s7.out.heap (hc4.heap HB3.out (by simp)) (by simp; omega))
      clear s0 s1 s2 s3 s4 s5 s6 s7 hc hc4 HC3 HB3 HX y0 y1 c0 c1 c2
      generalize (((w4.setCell ⟨X, 0, none⟩ (.bool neg)).setCell ⟨X, 1, none⟩ (.int .u64 (hi1 : Int))).setCell ⟨X, 2, none⟩ (.int .u64 (lo1 : Int))) = W4 at *
      obtain ⟨y0, y1⟩ := two_cells HC4.out
      obtain ⟨c0, c1, c2⟩ := three_cells HX4.out
      go_region_with (go_at_call 59; refine (t2 _).mono ?_; rintro e w5 ⟨rfl, hc6⟩; obtain ⟨s0, s1, s2, s3, s4, s5, s6, s7⟩ := store3 (.bool neg) (.int .u64 (hi2 : Int)) (.int .u64 (lo2 : Int)) (hc6.heap HX4.out (by simp)))
      all_goals
        have hc6' : Chg [] W4 w5 := ⟨hc6.os, hc6.tape, hc6.output, hc6.size, hc6.block⟩
        have HX6 := s6
        have hc7 : Chg [] w _ := (hc5.trans hc6').then s7.out (by simp; omega)
        have HC7 := hid (s7.out.heap (hc6'.heap HC4.out (by simp)) (by simp; omega))
        have HB7 := hid (s7.out.heap (hc6'.heap HB4.out (by simp)) (by simp; omega))
        clear s0 s1 s2 s3 s4 s5 s6 s7 hc6 hc6' HC4 HB4 HX4 y0 y1 c0 c1 c2
        go_wp2_with (fail)
        go_roundw
        case measure => first | omega | (simp [intOf]; omega)
        case rel => exact ⟨k + 1, hi2, lo2, by omega, by go_num, b6, b5, HV2, HX6, HC7, HB7, hc7⟩
    · obtain rfl : k = l.length := by omega
      have hk2 : ¬ (l.length : Int) < (l.length : Int) := by omega
      obtain ⟨s0, s1, s2, s3, s4, s5, s6, s7⟩ := store3 (.bool neg) (.int .u64 (hi : Int)) (.int .u64 (lo : Int)) HB3.out
      obtain ⟨d0, d1, d2⟩ := three_cells s6.out
      go_wp2_with (fail)
      refine ⟨by simp, ?_⟩
      refine ⟨.tuple #[num neg V, .bool true], ?_, rfl, hc.then s7.out (by simp)⟩
      rw [num_of neg hi lo V b1 (by rw [HV.out, List.take_length, hval])]
      simp [results, Tryd.f57, go_sem, d0, d1, d2]

/-- what read hands back -/
def rn (b : Bs) : Bool := fok b && fneg b
def rv (b : Bs) : Nat := if fok b then fv b else 0
theorem rv_lt (b : Bs) : rv b < 10 ^ 31 := by
  unfold rv
  by_cases h : fok b = true
  · rw [if_pos h]; exact (fok_parts b h).2.2.2
  · rw [if_neg h]; decide
theorem read_any (w : World) (v : Value) (b : Bs) (hv : Reads w v b) :
    Calls Tryd.prog 57 #[v] w fun e w' => e = .returned (.tuple #[num (rn b) (rv b), .bool (fok b)]) ∧ Chg [] w w' := by
  unfold rn rv
  cases h : fok b
  · exact read_bad w v b hv h
  · exact read_good w v b hv h

end Go.Proofs.YtmklkfogddppmaaDoor
