/- Valid of the program and of the reference. -/
import Derived.Test.YtmmhokcdchhciaaLeaf
import Derived.Test.YtmmhokcdchhciaaSpecB
namespace Go.Proofs.Ytmmhokcdchhciaa
open Go.RowKit
set_option linter.unusedVariables false

theorem valid_any (b : Bool) (s : ByteArray) (hs : s.size ≤ maxLen) (w : World) :
    Calls Try.prog 29 #[.agg #[.bool b, .string s]] w fun e w' => e = .returned (.bool (validS s.data.toList)) ∧ Chg [] w w' := by
  unfold maxLen at hs
  by_cases h1 : (s.size : Int) < 1
  · have H := hid (valid_short s h1)
    go_enter Try.func29, Try.ntmps29
    go_wp2
    go_returns
    exact ⟨ret_bool H.out, Chg.alloc _ _ _⟩
  · by_cases h2 : (31 : Int) < (s.size : Int)
    · have H := hid (valid_long s h2)
      go_enter Try.func29, Try.ntmps29
      go_wp2
      go_returns
      exact ⟨ret_bool H.out, Chg.alloc _ _ _⟩
    · go_enter Try.func29, Try.ntmps29
      go_wp2
      · go_returns
        exact ⟨ret_bool (valid_zero s (by omega) ‹_› (by first | assumption | (rw [beq_iff_eq]; assumption))), Chg.alloc _ _ _⟩
      all_goals
        have h3 : (s.size : Int) ≤ 1 ∨ ∃ h : 0 < s.size, ((s[0].toNat : Int) == 48) = false := by first | exact .inl (by omega) | exact .inr ⟨‹_›, by first | assumption | (rw [beq_eq_false_iff_ne]; assumption)⟩
        have H3 := hid h3; clear h3
        go_loop [29] (fun i => ∃ k : Nat, k ≤ s.size ∧ i = .int .i64 k ∧ Hid ((s.data.toList.take k).all digB = true)) (fun i => s.size - (intOf i).toNat)
        case atStart => exact ⟨0, Nat.zero_le _, rfl, rfl⟩
        case round =>
          obtain ⟨k, hk, rfl, hall⟩ := hrel
          by_cases hlt : k < s.size
          · by_cases h5 : (s[k].toNat : Int) < 48
            · have H := hid (valid_bad s k hlt (.inl h5))
              go_wp2
              go_returns
              exact ⟨ret_bool H.out, Chg.alloc _ _ _⟩
            · by_cases h6 : (57 : Int) < (s[k].toNat : Int)
              · have H := hid (valid_bad s k hlt (.inr h6))
                go_wp2
                go_returns
                exact ⟨ret_bool H.out, Chg.alloc _ _ _⟩
              · have H := hid (all_take_snoc (l := s.data.toList) (k := k) (by simpa using hlt) hall.out (digB_mk _ (by rw [ba_get s k hlt]; omega) (by rw [ba_get s k hlt]; omega)))
                go_wp2
                go_round
                case rel => exact ⟨k + 1, by omega, by go_num, H⟩
                case measure => simp [intOf]; omega
          · obtain rfl : k = s.size := by omega
            have H := hid (valid_good s (by omega) (by omega) H3.out hall.out)
            clear hall
            go_wp2
            go_returns
            exact ⟨ret_bool H.out, Chg.alloc _ _ _⟩

theorem rvalid_any (b : Bool) (s : ByteArray) (hs : s.size ≤ maxLen) (w : World) :
    Calls Try.prog 31 #[.agg #[.bool b, .string s]] w fun e w' => e = .returned (.bool (validS s.data.toList)) ∧ Chg [] w w' := by
  unfold maxLen at hs
  by_cases h1 : (s.size : Int) < 1
  · have H := hid (valid_short s h1)
    go_enter Try.func31, Try.ntmps31
    go_wp2
    go_returns
    exact ⟨ret_bool H.out, Chg.alloc _ _ _⟩
  · by_cases h2 : (31 : Int) < (s.size : Int)
    · have H := hid (valid_long s h2)
      go_enter Try.func31, Try.ntmps31
      go_wp2
      go_returns
      exact ⟨ret_bool H.out, Chg.alloc _ _ _⟩
    · go_enter Try.func31, Try.ntmps31
      go_wp2
      · go_returns
        exact ⟨ret_bool (valid_zero s (by omega) ‹_› (by first | assumption | (rw [beq_iff_eq]; assumption))), Chg.alloc _ _ _⟩
      all_goals
        have h3 : (s.size : Int) ≤ 1 ∨ ∃ h : 0 < s.size, ((s[0].toNat : Int) == 48) = false := by first | exact .inl (by omega) | exact .inr ⟨‹_›, by first | assumption | (rw [beq_eq_false_iff_ne]; assumption)⟩
        have H3 := hid h3; clear h3
        go_loop [3] (fun i => ∃ k : Nat, k ≤ s.size ∧ i = .int .i64 k ∧ Hid ((s.data.toList.take k).all digB = true)) (fun i => s.size - (intOf i).toNat)
        case atStart => exact ⟨0, Nat.zero_le _, rfl, rfl⟩
        case round =>
          obtain ⟨k, hk, rfl, hall⟩ := hrel
          by_cases hlt : k < s.size
          · by_cases h5 : (s[k].toNat : Int) < 48
            · have H := hid (valid_bad s k hlt (.inl h5))
              go_wp2
              go_returns
              exact ⟨ret_bool H.out, Chg.alloc _ _ _⟩
            · by_cases h6 : (57 : Int) < (s[k].toNat : Int)
              · have H := hid (valid_bad s k hlt (.inr h6))
                go_wp2
                go_returns
                exact ⟨ret_bool H.out, Chg.alloc _ _ _⟩
              · have H := hid (all_take_snoc (l := s.data.toList) (k := k) (by simpa using hlt) hall.out (digB_mk _ (by rw [ba_get s k hlt]; omega) (by rw [ba_get s k hlt]; omega)))
                go_wp2
                go_round
                case rel => exact ⟨k + 1, by omega, by go_num, H⟩
                case measure => simp [intOf]; omega
          · obtain rfl : k = s.size := by omega
            have H := hid (valid_good s (by omega) (by omega) H3.out hall.out)
            clear hall
            go_wp2
            go_returns
            exact ⟨ret_bool H.out, Chg.alloc _ _ _⟩

end Go.Proofs.Ytmmhokcdchhciaa
