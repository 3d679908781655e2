/- Add and Sub of jobshop/decimal. -/
import Derived.Test.YtmklkfogddppmaaDoorKDOps
import Derived.Test.YtmklkfogddppmaaDoorKNumAdd
import Derived.Test.YtmklkfogddppmaaDoorKDig
import Derived.Test.YtmklkfogddppmaaDoorKDFin
namespace Go.Proofs.YtmklkfogddppmaaDoor
open Go.RowKit Go.Shelf
set_option linter.unusedVariables false
set_option linter.unusedSimpArgs false

/-- the sum or difference of two fields -/
def sumN (a b : Bs) (flip : Bool) : Bool × Nat := addS (rn a) (rv a) (if flip then !rn b else rn b) (rv b)
/-- P4.1 -/
def finF (s : Bool × Nat) (n : Nat) : Bs × Int × Int := (finS s.1 s.2 n, finC s.1 s.2 n, finO s.2 n)
def addF (a b : Bs) (flip : Bool) : Bs × Int × Int := if codeS a b = 0 then finF (sumN a b flip) a.length else ([], 0, codeS a b)

theorem addS_lt (n1 n2 : Bool) (v1 v2 : Nat) : (addS n1 v1 n2 v2).2 ≤ v1 + v2 := by
  unfold addS
  split
  · exact Nat.le_refl _
  · split
    · exact Nat.le_trans (Nat.sub_le _ _) (by simp)
    · exact Nat.le_trans (Nat.sub_le _ _) (by simp)
theorem sumN_lt (a b : Bs) (flip : Bool) : (sumN a b flip).2 < 10 ^ 32 := by
  have h := addS_lt (rn a) (if flip then !rn b else rn b) (rv a) (rv b)
  have h1 := rv_lt a
  have h2 := rv_lt b
  unfold sumN
  omega
theorem code_len (a b : Bs) (h : codeS a b = 0) : 1 ≤ a.length ∧ a.length ≤ 16 ∧ 1 ≤ b.length ∧ b.length ≤ 16 := by
  unfold codeS at h
  by_cases h1 : (okSize a.length && okSize b.length) = true
  · obtain ⟨h2, h3⟩ := Bool.and_eq_true_iff.1 h1
    unfold okSize at h2 h3
    simp at h2 h3; omega
  · rw [if_neg h1] at h; cases h
theorem Tab.drew {w : World} (h : Tab w) : Tab w.drew := h.keep (Chg.drew _ _)

set_option maxHeartbeats 1000000 in
theorem Add_any (w : World) (va vb : Value) (a b : Bs) (hva : Reads w va a) (hvb : Reads w vb b) (ht : Tab w) :
    Calls Tryd.prog 21 #[va, vb] w fun e w' => ∃ u, e = .returned (.tuple #[u, .int .i64 (addF a b false).2.1, .int .i64 (addF a b false).2.2]) ∧
      w'.ownsRow w.heap.size 5 1 u (addF a b false).1.length ((addF a b false).1.map eb) ∧ Chg [] w w' := by
  have P := pair_any w va vb a b hva hvb
  obtain ⟨pa, ca, rfl⟩ := hva.shape (L := a.length) rfl
  by_cases hc : codeS a b = 0
  · obtain ⟨k1, k2, _, _⟩ := code_len a b hc
    have e0 : (codeS a b != 0) = false := by simp [hc]
    unfold addF
    rw [if_pos hc]
    unfold pn pv at P
    rw [if_pos hc, if_pos hc, if_pos hc, if_pos hc, hc] at P
    have A := fun W => add_num (rn a) (rn b) (rv a) (rv b) W (by have := rv_lt a; have := rv_lt b; omega)
    have hS : addS (rn a) (rv a) (rn b) (rv b) = sumN a b false := rfl
    rw [hS] at A
    have hlt := sumN_lt a b false
    have hlen : (Lib.decDigits (sumN a b false).2).length ≤ 1000 := Nat.le_trans ((dec_len _ 32 (by omega)).2 hlt) (by omega)
    generalize (sumN a b false) = s at *
    obtain ⟨sn, sv⟩ := s
    simp only at A hlt hlen ⊢
    obtain ⟨xh, xl, -, -, -, q2⟩ := num_parts (rn a) (rv a) (by have := rv_lt a; omega)
    obtain ⟨yh, yl, -, -, -, q4⟩ := num_parts (rn b) (rv b) (by have := rv_lt b; omega)
    obtain ⟨zh, zl, -, -, -, q6⟩ := num_parts sn sv (by omega)
    have D := fun W hW => ddigits_num sn sv W (by omega) hW
    have F := fun W => finish_any sn sv a.length W k1 k2 hlen
    rw [q2, q4] at P
    rw [q2, q4, q6] at A
    rw [q6] at D
    have HT := hid ht
    have hL : (finF (sn, sv) a.length).1.length = a.length := by simp [finF, finS, fldN, fld_length]
    rw [hL]
    show Calls _ _ _ _ fun e w' => ∃ u, e = .returned (.tuple #[u, .int .i64 (finC sn sv a.length), .int .i64 (finO sv a.length)]) ∧ w'.ownsRow w.heap.size 5 1 u a.length ((finS sn sv a.length).map eb) ∧ Chg [] w w'
    clear q2 q4 q6 hL hS e0 hva hvb ht hc hlt hlen
    generalize a.length = N at *
    go_enter Tryd.func21, Tryd.ntmps21
    go_upto_region 5 with (first
      | (go_at_call 47; refine P.mono ?_; rintro e w2 ⟨rfl, hc1⟩)
      | (go_at_call 48; refine (A _).mono ?_; rintro e w3 ⟨rfl, hc2⟩))
    have HX := hid (heap_alloc_new w3 (.cells #[.bool sn, .int .u64 (zh : Int), .int .u64 (zl : Int)] 43 (0, 0)))
    have hc3 := (((hc1.trans (Chg.alloc _ _ _)).trans (Chg.alloc _ _ _)).trans hc2).trans (Chg.alloc [] w3 (.cells #[.bool sn, .int .u64 (zh : Int), .int .u64 (zl : Int)] 43 (0, 0)))
    clear hc1 hc2 P A
    generalize w3.alloc (.cells #[.bool sn, .int .u64 (zh : Int), .int .u64 (zl : Int)] 43 (0, 0)) = W3 at *
    obtain ⟨c0, c1, c2⟩ := three_cells HX.out
    have hT3 := hid (HT.out.keep hc3)
    go_region_with (first
      | (go_at_call 39; refine (D _ hT3.out.drew).mono ?_; rintro e w5 ⟨rfl, hc5⟩; obtain ⟨x0, x1, x2⟩ := three_cells (hc5.heap HX.out (by simp)))
      | (go_at_call 51; refine (F _).mono ?_; rintro e w6 ⟨u, rfl, hO, hC⟩))
    all_goals
      have hc6 := hc3.trans ((Chg.drew [] W3).trans hc5)
      go_wp2_with (fail)
      go_returns
      exact ⟨u, by simp [Act.put], own_base hO hc6.size, hc6.trans hC⟩
  · have e0 : (codeS a b != 0) = true := by simp [hc]
    unfold addF
    rw [if_neg hc]
    unfold pn pv at P
    rw [if_neg hc, if_neg hc, if_neg hc, if_neg hc, num_zero] at P
    generalize codeS a b = c at *
    go_enter Tryd.func21, Tryd.ntmps21
    go_wp2_with (go_at_call 47; refine P.mono ?_; rintro e w2 ⟨rfl, hc1⟩)
    go_returns
    exact ⟨_, rfl, World.ownsRow_nil _ _ _ _, (hc1.trans (Chg.alloc _ _ _)).trans (Chg.alloc _ _ _)⟩

end Go.Proofs.YtmklkfogddppmaaDoor

/- Zap of jobshop/decimal. -/
namespace Go.Proofs.YtmklkfogddppmaaDoor
open Go.RowKit Go.Shelf
set_option linter.unusedVariables false
set_option linter.unusedSimpArgs false

/-- P4.1: the copy of a field -/
def zapF (n : Int) (b : Bs) : Bs × Int × Int := if okSize n && okSize b.length then (if fok b then finF (rn b, rv b) n.toNat else ([], 0, 7)) else ([], 0, 6)
theorem fok_rd (b : Bs) (h : fok b = true) : fneg b = rn b ∧ fv b = rv b := by unfold rn rv; rw [h]; simp

set_option maxHeartbeats 1000000 in
theorem Zap_any (w : World) (n : Int) (vb : Value) (b : Bs) (hvb : Reads w vb b) :
    Calls Tryd.prog 25 #[.int .i64 n, vb] w fun e w' => ∃ u, e = .returned (.tuple #[u, .int .i64 (zapF n b).2.1, .int .i64 (zapF n b).2.2]) ∧
      w'.ownsRow w.heap.size 5 1 u (zapF n b).1.length ((zapF n b).1.map eb) ∧ Chg [] w w' := by
  have D := Decode_any w vb b hvb
  obtain ⟨pb, cb, rfl⟩ := hvb.shape (L := b.length) rfl
  unfold zapF
  by_cases hs : (okSize n && okSize b.length) = true
  · obtain ⟨h1, h2⟩ := Bool.and_eq_true_iff.1 hs
    rw [if_pos hs]
    cases hf : fok b
    · rw [fok_false b hf] at D
      rw [if_neg (by simp)]
      go_enter Tryd.func25, Tryd.ntmps25
      go_wp2_with (first
        | (go_at_call 53; refine (dsize_any _ _).mono ?_; rintro e w2 ⟨rfl, rfl⟩; first | rw [h1] | rw [h2])
        | (go_at_call 54; refine D.mono ?_; rintro e w2 ⟨rfl, hc⟩))
      go_returns
      exact ⟨_, rfl, World.ownsRow_nil _ _ _ _, hc.trans (Chg.alloc _ _ _)⟩
    · obtain ⟨g1, g2⟩ := fok_rd b hf
      rw [fok_true b hf, g1, g2] at D
      rw [if_pos rfl]
      obtain ⟨m, rfl, hm1, hm2⟩ := ok_nat h1
      have hlen : (Lib.decDigits (rv b)).length ≤ 1000 := Nat.le_trans ((dec_len _ 31 (by omega)).2 (rv_lt b)) (by omega)
      have F := fun W => finish_any (rn b) (rv b) m W hm1 hm2 hlen
      have hL : (finF (rn b, rv b) m).1.length = m := by simp [finF, finS, fldN, fld_length]
      rw [Int.toNat_natCast, hL]
      show Calls _ _ _ _ fun e w' => ∃ u, e = .returned (.tuple #[u, .int .i64 (finC (rn b) (rv b) m), .int .i64 (finO (rv b) m)]) ∧ w'.ownsRow w.heap.size 5 1 u m ((finS (rn b) (rv b) m).map eb) ∧ Chg [] w w'
      clear hL hlen g1 g2 hf hs
      generalize rn b = sn at *
      generalize rv b = sv at *
      go_enter Tryd.func25, Tryd.ntmps25
      go_wp2_with (first
        | (go_at_call 53; refine (dsize_any _ _).mono ?_; rintro e w2 ⟨rfl, rfl⟩; first | rw [h1] | rw [h2])
        | (go_at_call 54; refine D.mono ?_; rintro e w2 ⟨rfl, hc⟩)
        | (go_at_call 51; refine (F _).mono ?_; rintro e w3 ⟨u, rfl, hO, hC⟩))
      go_returns
      have hc2 := hc.trans (Chg.alloc [] w2 (.cells #[.bool sn, .string ⟨(Lib.decDigits sv).toArray⟩] 70 (0, 0)))
      exact ⟨u, rfl, own_base hO hc2.size, hc2.trans hC⟩
  · rw [if_neg hs]
    clear D
    cases h1 : okSize n
    · go_enter Tryd.func25, Tryd.ntmps25
      go_wp2_with (go_at_call 53; refine (dsize_any _ _).mono ?_; rintro e w2 ⟨rfl, rfl⟩; first | rw [h1] | rw [h2])
      go_returns
      exact ⟨_, rfl, World.ownsRow_nil _ _ _ _, Chg.refl _ _⟩
    · have h2 : okSize (b.length : Int) = false := by rw [h1, Bool.true_and] at hs; simpa using hs
      clear hs
      go_enter Tryd.func25, Tryd.ntmps25
      go_wp2_with (go_at_call 53; refine (dsize_any _ _).mono ?_; rintro e w2 ⟨rfl, rfl⟩; first | rw [h1] | rw [h2])
      go_returns
      exact ⟨_, rfl, World.ownsRow_nil _ _ _ _, Chg.refl _ _⟩

end Go.Proofs.YtmklkfogddppmaaDoor
