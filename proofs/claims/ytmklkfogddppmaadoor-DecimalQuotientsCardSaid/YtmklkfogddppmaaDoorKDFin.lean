/- write and finish of jobshop/decimal. -/
import Derived.Deep.LoopGhost
import Derived.Test.YtmklkfogddppmaaDoorKNum
import Derived.Test.YtmklkfogddppmaaDoorKEncode
import Derived.Test.YtmklkfogddppmaaDoorKDecB
namespace Go.Proofs.YtmklkfogddppmaaDoor
open Go.RowKit Go.Shelf
set_option linter.unusedVariables false
set_option linter.unusedSimpArgs false

theorem cutB (t : Bs) (k : Nat) : (⟨t.toArray⟩ : ByteArray).extract k t.length = ⟨(t.drop k).toArray⟩ := by
  apply ByteArray.ext
  rw [ByteArray.data_extract]
  apply Array.toList_inj.1
  simp [List.take_of_length_le]
theorem strip_cut : ∀ (T : Bs), 1 < T.length → bN T 0 = 48 → strip (T.drop 1) = strip T
  | [], h, _ => by simp at h
  | [_], h, _ => by simp at h
  | c :: d :: l, _, h => by
    have : c = 48 := UInt8.toNat_inj.1 h
    subst this
    exact (strip_zero d l).symm
theorem strip_keep : ∀ (T : Bs), T.length ≤ 1 ∨ bN T 0 ≠ 48 → strip T = T
  | [], _ => rfl
  | [_], _ => rfl
  | c :: d :: l, h => by
    refine strip_other d l fun e => ?_
    rcases h with h | h
    · simp at h
    · exact h (by rw [e]; rfl)

set_option maxHeartbeats 1000000 in
theorem write_any (neg : Bool) (s : Bs) (n : Nat) (w : World) (h1 : 1 ≤ n) (h2 : n ≤ 16) (hs : s ≠ []) (hs2 : s.length ≤ 1000) :
    Calls Tryd.prog 38 #[.bool neg, .string ⟨s.toArray⟩, .int .i64 n] w fun e w' =>
      ∃ u, e = .returned (.tuple #[u, .bool (decide (2 * n - 1 < s.length))]) ∧ w'.ownsRow w.heap.size 5 1 u (encS neg (strip (cutT s n)) n).1.length ((encS neg (strip (cutT s n)) n).1.map eb) ∧ Chg [] w w' := by
  have hsz : (⟨s.toArray⟩ : ByteArray).size = s.length := rfl
  have HC := hid (cut_length s n)
  by_cases h : 2 * n - 1 < s.length
  · have e1 : 2 * (n : Int) - 1 < (s.length : Int) := by omega
    have hcut : cutT s n = s.drop (s.length - (2 * n - 1)) := by unfold cutT; rw [if_pos h]
    have HCUT := hid ((cutB s (s.length - (2 * n - 1))).trans (by rw [← hcut]))
    clear hcut
    go_enter Tryd.func38, Tryd.ntmps38
    go_wp2_with (fail)
    go_loopg [1] (cutT s n).length (fun g x wr => ∃ T : Bs, x = .string ⟨T.toArray⟩ ∧ g = T.length ∧ T ≠ [] ∧ T.length ≤ 1000 ∧ Hid (strip T = strip (cutT s n)) ∧ wr = w)
    case atStart => exact ⟨cutT s n, by rw [HCUT.out], rfl, HC.out.2 h1 hs, by have := HC.out.1; omega, rfl, rfl⟩
    case round =>
      obtain ⟨T, rfl, rfl, hT, hT2, hST, rfl⟩ := hrel
      have hTl := List.length_pos_iff.2 hT
      have hext : 1 ≤ T.length → (⟨T.toArray⟩ : ByteArray).extract 1 T.length = ⟨(T.drop 1).toArray⟩ := fun _ => cutB T 1
      obtain ⟨S, hS⟩ : ∃ S : ByteArray, (⟨T.toArray⟩ : ByteArray) = S := ⟨_, rfl⟩
      have hSz : S.size = T.length := by rw [← hS]; rfl
      have hdat : S.data.toList = T := by rw [← hS]
      rw [hS] at hext ⊢
      by_cases g : 1 < S.size
      · have hb := ba_bN S 0 (by omega)
        rw [hdat] at hb
        by_cases g2 : bN T 0 = 48
        · have e0 : ((S[0].toNat : Int) == 48) = true := by rw [← hb, g2]; rfl
          have hstrip : strip (T.drop 1) = strip T := strip_cut T (by omega) g2
          have HEX := hid (hext (by omega))
          have HD := hid hdat
          clear hS hb g2 hext hdat
          go_wp2_with (fail)
          go_roundg (T.length - 1)
          case measure => omega
          case rel => exact ⟨T.drop 1, by rw [HEX.out], by rw [List.length_drop], by intro e; have := congrArg List.length e; rw [List.length_drop] at this; simp at this; omega, by rw [List.length_drop]; omega, hid (hstrip.trans hST.out), rfl⟩
        · have e0 : ((S[0].toNat : Int) == 48) = false := beq_eq_false_iff_ne.2 (by omega)
          have hstrip : strip T = T := strip_keep T (.inr g2)
          have hE := fun W => Encode_any W neg S (by unfold maxLen; omega) n
          rw [hdat, ← hstrip, hST.out] at hE
          clear hS hb g2 hext hdat hstrip
          go_wp2_with (go_at_call 65; refine (hE _).mono ?_; rintro e w2 ⟨u, rfl, hO, hC⟩)
          go_returns
          exact ⟨u, by rw [decide_eq_true h]; rfl, hO, hC⟩
      · have hstrip : strip T = T := strip_keep T (.inl (by omega))
        have hE := fun W => Encode_any W neg S (by unfold maxLen; omega) n
        rw [hdat, ← hstrip, hST.out] at hE
        clear hS hext hdat hstrip
        go_wp2_with (go_at_call 65; refine (hE _).mono ?_; rintro e w2 ⟨u, rfl, hO, hC⟩)
        go_returns
        exact ⟨u, by rw [decide_eq_true h]; rfl, hO, hC⟩
  · have e1 : ¬ 2 * (n : Int) - 1 < (s.length : Int) := by omega
    have hcut : cutT s n = s := by unfold cutT; rw [if_neg h]
    have HCUT := hid hcut
    clear hcut
    go_enter Tryd.func38, Tryd.ntmps38
    go_wp2_with (fail)
    go_loopg [1] (cutT s n).length (fun g x wr => ∃ T : Bs, x = .string ⟨T.toArray⟩ ∧ g = T.length ∧ T ≠ [] ∧ T.length ≤ 1000 ∧ Hid (strip T = strip (cutT s n)) ∧ wr = w)
    case atStart => exact ⟨cutT s n, by rw [HCUT.out], rfl, HC.out.2 h1 hs, by have := HC.out.1; omega, rfl, rfl⟩
    case round =>
      obtain ⟨T, rfl, rfl, hT, hT2, hST, rfl⟩ := hrel
      have hTl := List.length_pos_iff.2 hT
      have hext : 1 ≤ T.length → (⟨T.toArray⟩ : ByteArray).extract 1 T.length = ⟨(T.drop 1).toArray⟩ := fun _ => cutB T 1
      obtain ⟨S, hS⟩ : ∃ S : ByteArray, (⟨T.toArray⟩ : ByteArray) = S := ⟨_, rfl⟩
      have hSz : S.size = T.length := by rw [← hS]; rfl
      have hdat : S.data.toList = T := by rw [← hS]
      rw [hS] at hext ⊢
      by_cases g : 1 < S.size
      · have hb := ba_bN S 0 (by omega)
        rw [hdat] at hb
        by_cases g2 : bN T 0 = 48
        · have e0 : ((S[0].toNat : Int) == 48) = true := by rw [← hb, g2]; rfl
          have hstrip : strip (T.drop 1) = strip T := strip_cut T (by omega) g2
          have HEX := hid (hext (by omega))
          have HD := hid hdat
          clear hS hb g2 hext hdat
          go_wp2_with (fail)
          go_roundg (T.length - 1)
          case measure => omega
          case rel => exact ⟨T.drop 1, by rw [HEX.out], by rw [List.length_drop], by intro e; have := congrArg List.length e; rw [List.length_drop] at this; simp at this; omega, by rw [List.length_drop]; omega, hid (hstrip.trans hST.out), rfl⟩
        · have e0 : ((S[0].toNat : Int) == 48) = false := beq_eq_false_iff_ne.2 (by omega)
          have hstrip : strip T = T := strip_keep T (.inr g2)
          have hE := fun W => Encode_any W neg S (by unfold maxLen; omega) n
          rw [hdat, ← hstrip, hST.out] at hE
          clear hS hb g2 hext hdat hstrip
          go_wp2_with (go_at_call 65; refine (hE _).mono ?_; rintro e w2 ⟨u, rfl, hO, hC⟩)
          go_returns
          exact ⟨u, by rw [decide_eq_false h]; rfl, hO, hC⟩
      · have hstrip : strip T = T := strip_keep T (.inl (by omega))
        have hE := fun W => Encode_any W neg S (by unfold maxLen; omega) n
        rw [hdat, ← hstrip, hST.out] at hE
        clear hS hext hdat hstrip
        go_wp2_with (go_at_call 65; refine (hE _).mono ?_; rintro e w2 ⟨u, rfl, hO, hC⟩)
        go_returns
        exact ⟨u, by rw [decide_eq_false h]; rfl, hO, hC⟩

theorem write_dec (neg : Bool) (v : Nat) (n : Nat) (w : World) (h1 : 1 ≤ n) (h2 : n ≤ 16) (hv : (Lib.decDigits v).length ≤ 1000) :
    Calls Tryd.prog 38 #[.bool neg, .string ⟨(Lib.decDigits v).toArray⟩, .int .i64 n] w fun e w' =>
      ∃ u, e = .returned (.tuple #[u, .bool (decide (10 ^ (2 * n - 1) ≤ v))]) ∧ w'.ownsRow w.heap.size 5 1 u n ((fldN n neg v).map eb) ∧ Chg [] w w' := by
  refine (write_any neg (Lib.decDigits v) n w h1 h2 (dec_ne v) hv).mono ?_
  rintro e w' ⟨u, rfl, hO, hC⟩
  have hE : (encS neg (strip (cutT (Lib.decDigits v) n)) n).1 = fldN n neg v := by
    unfold encS
    rw [cut_valid v n h1 h2, show okSize (n : Int) = true from by unfold okSize; simp; omega]
    exact cut_fld neg v n
  rw [hE] at hO
  refine ⟨u, ?_, by simpa [fldN, fld_length] using hO, hC⟩
  rw [show decide (2 * n - 1 < (Lib.decDigits v).length) = decide (10 ^ (2 * n - 1) ≤ v) from by rw [Bool.eq_iff_iff, decide_eq_true_iff, decide_eq_true_iff]; exact dec_over v n h1]

end Go.Proofs.YtmklkfogddppmaaDoor

/- finish of jobshop/decimal. -/
namespace Go.Proofs.YtmklkfogddppmaaDoor
open Go.RowKit Go.Shelf
set_option linter.unusedVariables false
set_option linter.unusedSimpArgs false

/-- P4.1: the field, the condition code and the interruption code of a number -/
def finS (neg : Bool) (v n : Nat) : Bs := fldN n (neg && decide (v ≠ 0)) v
def finC (neg : Bool) (v n : Nat) : Int := if 10 ^ (2 * n - 1) ≤ v then 3 else if v = 0 then 0 else if neg then 1 else 2
def finO (v n : Nat) : Int := if 10 ^ (2 * n - 1) ≤ v then 10 else 0

set_option maxHeartbeats 1000000 in
set_option maxRecDepth 100000 in
theorem finish_any (neg : Bool) (v : Nat) (n : Nat) (w : World) (h1 : 1 ≤ n) (h2 : n ≤ 16) (hv : (Lib.decDigits v).length ≤ 1000) :
    Calls Tryd.prog 51 #[.bool neg, .string ⟨(Lib.decDigits v).toArray⟩, .int .i64 n] w fun e w' =>
      ∃ u, e = .returned (.tuple #[u, .int .i64 (finC neg v n), .int .i64 (finO v n)]) ∧ w'.ownsRow w.heap.size 5 1 u n ((finS neg v n).map eb) ∧ Chg [] w w' := by
  have hW := fun neg W => write_dec neg v n W h1 h2 hv
  have hp : 0 < 10 ^ (2 * n - 1) := Nat.pow_pos (by decide)
  have hE : ((⟨(Lib.decDigits v).toArray⟩ : ByteArray).toList == [48]) = decide (v = 0) := by
    rw [ByteArray.toList_eq, Bool.eq_iff_iff, beq_iff_eq, decide_eq_true_iff, ← dec_zero_iff]
  clear hv
  generalize (⟨(Lib.decDigits v).toArray⟩ : ByteArray) = S at *
  unfold finC finO finS
  generalize 10 ^ (2 * n - 1) = p at *
  by_cases hz : v = 0
  · rw [decide_eq_true hz] at hE
    have hW' := hW false
    rw [decide_eq_false (by omega)] at hW'
    rw [if_neg (by omega), if_pos hz, if_neg (by omega), decide_eq_false (fun h => h hz), Bool.and_false]
    clear hW
    go_enter Tryd.func51, Tryd.ntmps51
    go_wp2_with (go_at_call 38; refine (hW' _).mono ?_; rintro e w2 ⟨u, rfl, hO, hC⟩)
    go_returns
    exact ⟨u, by first | rfl | (simp; done), hO, hC⟩
  · rw [decide_eq_false hz] at hE
    have hW' := hW neg
    clear hW
    rw [decide_eq_true hz, Bool.and_true, if_neg hz]
    by_cases ho : p ≤ v
    · rw [decide_eq_true ho] at hW'
      rw [if_pos ho, if_pos ho]
      go_enter Tryd.func51, Tryd.ntmps51
      go_wp2_with (go_at_call 38; refine (hW' _).mono ?_; rintro e w2 ⟨u, rfl, hO, hC⟩)
      go_returns
      exact ⟨u, by first | rfl | (simp; done), hO, hC⟩
    · rw [decide_eq_false ho] at hW'
      rw [if_neg ho, if_neg ho]
      cases neg
      · go_enter Tryd.func51, Tryd.ntmps51
        go_wp2_with (go_at_call 38; refine (hW' _).mono ?_; rintro e w2 ⟨u, rfl, hO, hC⟩)
        go_returns
        exact ⟨u, by first | rfl | (simp; done), hO, hC⟩
      · go_enter Tryd.func51, Tryd.ntmps51
        go_wp2_with (go_at_call 38; refine (hW' _).mono ?_; rintro e w2 ⟨u, rfl, hO, hC⟩)
        go_returns
        exact ⟨u, by first | rfl | (simp; done), hO, hC⟩

end Go.Proofs.YtmklkfogddppmaaDoor
