import Derived.WalkSpells
import Derived.Outline
import Derived.Test.YtldkmclfhjcicaaDoorRNam
import Derived.Test.YtldkmclfhjcicaaDoorCSk
namespace Go.Proofs.YtldkmclfhjcicaaDoor
open Go.RowKit
set_option linter.unusedVariables false
set_option linter.unusedSimpArgs false

theorem numS_pos (b s : Bs) (hs : s.length = 9) : numS b (b ++ s) = if s.take 2 = [46, 71] ∧ s.drop 6 = [86, 48, 48] ∧ digK (s.drop 2) 4 = true then accN (s.drop 2) 4 else 0 := by
  rw [numS_7]
  have hd : (b ++ s).drop (b.length + 2) = s.drop 2 := by rw [List.drop_append]; simp
  have hp : (b ++ [46, 71]) <+: (b ++ s) ↔ s.take 2 = [46, 71] := by
    rw [List.prefix_append_right_inj]
    constructor
    · rintro ⟨t, rfl⟩; rfl
    · intro h; exact ⟨s.drop 2, by rw [← h]; exact List.take_append_drop 2 s⟩
  by_cases h : s.take 2 = [46, 71]
  · rw [if_pos (hp.2 h), hd]
    unfold tail7
    have h7 : (s.drop 2).length = 7 := by rw [List.length_drop]; omega
    have h4 : (s.drop 2).drop 4 = s.drop 6 := by rw [List.drop_drop]
    by_cases g : s.drop 6 = [86, 48, 48] ∧ digK (s.drop 2) 4 = true
    · rw [if_pos ⟨h7, by rw [h4]; exact g.1, g.2⟩, if_pos ⟨h, g⟩]
    · rw [if_neg (fun q => g ⟨by rw [← h4]; exact q.2.1, q.2.2⟩), if_neg (fun q => g q.2)]
  · rw [if_neg (fun q => h (hp.1 q)), if_neg (fun q => h q.1)]

set_option maxHeartbeats 4000000 in
theorem rnumber_any (A N : ByteArray) (hA : A.size ≤ 1000000) (w : World) : Calls Tryd.prog 91 #[.string A, .string N] w fun e w' => e = .returned (.int .i64 (numS A.data.toList N.data.toList : Nat)) ∧ w = w' := by
  obtain ⟨R, hR⟩ : ∃ R, numS A.data.toList N.data.toList = R := ⟨_, rfl⟩
  rw [hR]
  by_cases hl : N.size = A.size + 9
  · by_cases ht : N.data.toList.take A.size = A.data.toList
    · obtain ⟨T, hT⟩ : ∃ T, N.extract A.size (A.size + 9) = T := ⟨_, rfl⟩
      have hTd : T.data.toList = N.data.toList.drop A.size := by rw [← hT, ext_data, List.take_of_length_le (by rw [List.length_drop, bs_len]; omega)]
      have hTs : T.size = 9 := by rw [← hT, ByteArray.size_extract]; omega
      obtain ⟨s, hs⟩ : ∃ s, T.data.toList = s := ⟨_, rfl⟩
      have hsl : s.length = 9 := by rw [← hs, bs_len, hTs]
      have hNs : N.data.toList = A.data.toList ++ s := by rw [← hs, hTd]; conv => lhs; rw [← List.take_append_drop A.size N.data.toList, ht]
      have HR : Hid ((if s.take 2 = [46, 71] ∧ s.drop 6 = [86, 48, 48] ∧ digK (s.drop 2) 4 = true then accN (s.drop 2) 4 else 0) = R) := hid (by rw [← hR, hNs, numS_pos _ _ hsl])
      have HI : Hid (∀ k : Nat, k < 4 → ∀ W, (Instr.index 9 (.string T) (.int .i64 ((k : Int) + 2))).run Tryd.prog W = .ok (.int .u8 (bN (s.drop 2) k : Nat)) W) := hid (fun k hk W => by
        have h := idx_str T (k + 2) (by omega) W
        rw [hs, show ((k + 2 : Nat) : Int) = (k : Int) + 2 from by omega] at h
        rw [h]
        unfold bN
        rw [List.getD_eq_getElem?_getD, List.getD_eq_getElem?_getD, List.getElem?_drop, Nat.add_comm])
      have cmp1 : (!(N.extract 0 A.size).toList == A.toList) = false := by rw [str_eq, ext_data]; simp [ht]
      have hN9 : ((N.size : Int) != (A.size : Int) + 9) = false := by simp; omega
      have hN9' : (N.size : Int) = (A.size : Int) + 9 := by omega
      have c2 : (!(T.extract 0 2).toList == ([46, 71] : List UInt8)) = !(decide (s.take 2 = [46, 71])) := by
        rw [ByteArray.toList_eq, ext_data, hs]; congr 1; rw [Bool.eq_iff_iff]; simp
      have c6 : (!(T.extract 6 9).toList == ([86, 48, 48] : List UInt8)) = !(decide (s.drop 6 = [86, 48, 48])) := by
        rw [ByteArray.toList_eq, ext_data, hs, List.take_of_length_le (by rw [List.length_drop]; omega)]; congr 1; rw [Bool.eq_iff_iff]; simp
      have HC1 := hid cmp1
      have HC2 := hid c2
      have HC6 := hid c6
      have HT := hid hT
      clear hR ht hT hTd hs hNs cmp1 c2 c6 hsl
      go_enter Tryd.func91, Tryd.ntmps91
      have cmp1 := HC1.out
      go_wp2_with (fail)
      rw [HT.out]
      clear cmp1 hN9 hN9'
      go_loop [6, 7] (fun s6 s7 => ∃ k : Nat, k ≤ 4 ∧ s7 = .int .i64 ((k : Int) + 2) ∧ s6 = .int .i64 (accN (s.drop 2) k : Nat) ∧ Hid (∀ i < k, 48 ≤ bN (s.drop 2) i ∧ bN (s.drop 2) i ≤ 57)) (fun _ i => 6 - (intOf i).toNat)
      case atStart => exact ⟨0, by omega, rfl, rfl, fun i hi => absurd hi (by omega)⟩
      case round =>
        obtain ⟨k, hk, rfl, rfl, hd⟩ := hrel
        obtain ⟨t, ht⟩ : ∃ t, s.drop 2 = t := ⟨_, rfl⟩
        rw [ht] at HI HR hd ⊢
        have hacc := accN_lt t k hd.out
        have hp4 : 10 ^ k ≤ 10 ^ 4 := Nat.pow_le_pow_right (by decide) hk
        have HA := hid (show accN t (k + 1) = 10 * accN t k + (bN t k - 48) from rfl)
        have hac : accN t k < 10000 := by omega
        clear hacc hp4
        obtain ⟨a, ha⟩ : ∃ a, accN t k = a := ⟨_, rfl⟩
        rw [ha] at HA hac ⊢
        have HAe := hid ha
        clear ha
        by_cases hlt : k < 4
        · have i1 := HI.out k hlt
          have hlti : (k : Int) + 2 < 6 := by omega
          by_cases h1 : (bN t k : Int) < 48
          · obtain rfl : 0 = R := by
              rw [← HR.out]; rw [if_neg]; rintro ⟨_, _, h⟩; have := (digK_iff t 4).1 h k hlt; omega
            clear HA ht
            generalize bN t k = c at *
            go_wp2
            go_ret
            exact ⟨rfl, rfl⟩
          · by_cases h2 : (57 : Int) < (bN t k : Int)
            · obtain rfl : 0 = R := by
                rw [← HR.out]; rw [if_neg]; rintro ⟨_, _, h⟩; have := (digK_iff t 4).1 h k hlt; omega
              clear HA ht
              generalize bN t k = c at *
              go_wp2
              go_ret
              exact ⟨rfl, rfl⟩
            · have hd2 : Hid (∀ i < k + 1, 48 ≤ bN t i ∧ bN t i ≤ 57) := fun i hi => by
                rcases Nat.lt_or_ge i k with h | h
                · exact hd.out i h
                · obtain rfl : i = k := by omega
                  omega
              have HTT := hid ht
              clear ht
              generalize bN t k = c at *
              go_wp2
              go_round
              case rel => exact ⟨k + 1, by omega, by go_num, by rw [HA.out]; go_num, hd2⟩
              case measure => simp [intOf]; omega
        · obtain rfl : k = 4 := by omega
          have hdk := (digK_iff t 4).2 hd.out
          have c2 := HC2.out
          have c6 := HC6.out
          clear HA ht
          by_cases g1 : s.take 2 = [46, 71]
          · rw [decide_eq_true g1] at c2
            by_cases g2 : s.drop 6 = [86, 48, 48]
            · rw [decide_eq_true g2] at c6
              obtain rfl : accN t 4 = R := by rw [← HR.out, if_pos ⟨g1, g2, hdk⟩]
              clear g1 g2 hdk
              go_wp2
              go_ret
              exact ⟨ret_int (by rw [HAe.out]), rfl⟩
            · rw [decide_eq_false g2] at c6
              obtain rfl : 0 = R := by rw [← HR.out, if_neg (fun q => g2 q.2.1)]
              clear g1 g2 hdk
              go_wp2
              go_ret
              exact ⟨rfl, rfl⟩
          · rw [decide_eq_false g1] at c2
            obtain rfl : 0 = R := by rw [← HR.out, if_neg (fun q => g1 q.1)]
            clear g1 hdk
            go_wp2
            go_ret
            exact ⟨rfl, rfl⟩
    · obtain rfl : 0 = R := by
        rw [← hR]; unfold numS; rw [bs_len, if_neg ht]
      have cmp1 : (!(N.extract 0 A.size).toList == A.toList) = true := by rw [str_eq, ext_data]; simp [ht]
      have hN9 : ((N.size : Int) != (A.size : Int) + 9) = false := by simp; omega
      have hN9' : (N.size : Int) = (A.size : Int) + 9 := by omega
      clear hR ht
      go_enter Tryd.func91, Tryd.ntmps91
      go_wp2_with (fail)
      go_ret
      exact ⟨rfl, rfl⟩
  · obtain rfl : 0 = R := by
      rw [← hR]
      by_cases h0 : numS A.data.toList N.data.toList = 0
      · exact h0.symm
      · have := numS_len _ _ h0
        rw [bs_len, bs_len] at this; omega
    have hN9 : ((N.size : Int) != (A.size : Int) + 9) = true := by simp; omega
    have hN8 : ((N.size : Int) == (A.size : Int) + 9) = false := by simp; omega
    clear hR
    go_enter Tryd.func91, Tryd.ntmps91
    go_wp2_with (fail)
    go_ret
    exact ⟨rfl, rfl⟩

end Go.Proofs.YtldkmclfhjcicaaDoor
