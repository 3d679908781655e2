import Derived.WalkSpells
import Derived.Outline
import Derived.Test.YtldkmclfhjcicaaDoorRNum
import Derived.Test.YtldkmclfhjcicaaDoorCByF
namespace Go.Proofs.YtldkmclfhjcicaaDoor
open Go.RowKit
set_option linter.unusedVariables false
set_option linter.unusedSimpArgs false

def capN (n : Nat) : Bool := (decide (65 ≤ n) && decide (n ≤ 90)) || (decide (48 ≤ n) && decide (n ≤ 57))
theorem capC_N (c : UInt8) : capC c = capN c.toNat := rfl
def ufR (u f : Int) : Bool := decide (u = 5) && decide (f = 0) || decide (u = 4) && decide (1 ≤ f) && decide (f ≤ 4096)

set_option maxHeartbeats 8000000 in
theorem rentry_any (S T : ByteArray) (u f : Int) (w : World) : Calls Tryd.prog 88 #[.agg #[.string S, .int .i64 u, .string T, .int .i64 f]] w fun e w' =>
    e = .returned (.bool (entOk ⟨S.data.toList, u, T.data.toList, f⟩)) ∧ Chg [] w w' := by
  have c := fun W => rName_any S W
  obtain ⟨l, hl⟩ : ∃ l, T.data.toList = l := ⟨_, rfl⟩
  obtain ⟨L, hL⟩ : ∃ L, T.size = L := ⟨_, rfl⟩
  have hll : l.length = L := by rw [← hl, bs_len, hL]
  obtain ⟨R, hR⟩ : ∃ R, entOk ⟨S.data.toList, u, l, f⟩ = R := ⟨_, rfl⟩
  rw [hl, hR]
  have HR : Hid (R = (nameOk S.data.toList && (decide (1 ≤ L) && decide (L ≤ 6) && l.all capC) && ufR u f)) := hid (by rw [← hR]; unfold entOk ufR; rw [hll])
  have HX : Hid (∀ k : Nat, k < L → ∀ W, (Instr.index 9 (.string T) (.int .i64 (k : Int))).run Tryd.prog W = .ok (.int .u8 (bN l k : Nat)) W) := fun k hk W => by rw [← hl]; exact idx_str T k (by omega) W
  have HALL := hid (all_bN capC capN capC_N l)
  rw [hll] at HALL
  obtain ⟨W0, hW0⟩ : ∃ W0, w.alloc (.cells #[.string S, .int .i64 u, .string T, .int .i64 f] 50) = W0 := ⟨_, rfl⟩
  have hbx : W0.heap[w.heap.size]? = some (.cells #[.string S, .int .i64 u, .string T, .int .i64 f] 50 (0, 0)) := by rw [← hW0]; exact al_new rfl
  have hw0 : Chg [] w W0 := by rw [← hW0]; exact Chg.alloc _ _ _
  obtain ⟨b0, b1, b2, b3⟩ := four_at hbx
  have HW0 := hid hW0
  have hTT : (T.size : Int) = (L : Int) := by omega
  have HTT := hid hTT
  clear hTT hR hl hll hbx hW0
  cases hn : nameOk S.data.toList with
  | false =>
    rw [hn] at c
    obtain rfl : R = false := by rw [HR.out, hn]; rfl
    clear hn
    go_enter Tryd.func88, Tryd.ntmps88
    go_wp2_with (first | (go_at_call 15; rw [HW0.out]; refine (c _).mono ?_; rintro e w' ⟨rfl, rfl⟩))
    go_ret
    exact ⟨rfl, hw0⟩
  | true =>
    rw [hn] at c
    by_cases h1 : L < 1
    · obtain rfl : R = false := by rw [HR.out, hn, decide_eq_false (by omega)]; rfl
      have h1i : (T.size : Int) < 1 := by have := HTT.out; omega
      clear hn
      go_enter Tryd.func88, Tryd.ntmps88
      go_wp2_with (first | (go_at_call 15; rw [HW0.out]; refine (c _).mono ?_; rintro e w' ⟨rfl, rfl⟩))
      go_ret
      exact ⟨rfl, hw0⟩
    · have h1i : ¬ (T.size : Int) < 1 := by have := HTT.out; omega
      by_cases h6 : 6 < L
      · obtain rfl : R = false := by rw [HR.out, hn, decide_eq_true (by omega : 1 ≤ L), decide_eq_false (by omega : ¬ L ≤ 6)]; rfl
        have h6i : (6 : Int) < (T.size : Int) := by have := HTT.out; omega
        clear hn
        go_enter Tryd.func88, Tryd.ntmps88
        go_wp2_with (first | (go_at_call 15; rw [HW0.out]; refine (c _).mono ?_; rintro e w' ⟨rfl, rfl⟩))
        go_ret
        exact ⟨rfl, hw0⟩
      · have h6i : ¬ (6 : Int) < (T.size : Int) := by have := HTT.out; omega
        have HRA : Hid (R = (l.all capC && ufR u f)) := hid (by rw [HR.out, hn, decide_eq_true (by omega : 1 ≤ L), decide_eq_true (by omega : L ≤ 6)]; rfl)
        have HBAD : Hid (∀ k, k < L → capN (bN l k) = false → R = false) := fun k hk hb => by
          rw [HRA.out]
          cases ha : l.all capC with
          | false => rfl
          | true => have := HALL.out.1 ha k hk; rw [hb] at this; cases this
        have HGOOD : Hid ((∀ k, k < L → capN (bN l k) = true) → R = ufR u f) := fun h => by rw [HRA.out, HALL.out.2 h]; rfl
        clear hn HR HALL HRA
        go_enter Tryd.func88, Tryd.ntmps88
        go_wp2_with (first | (go_at_call 15; rw [HW0.out]; refine (c _).mono ?_; rintro e w' ⟨rfl, rfl⟩))
        go_loop [3, 4] (fun i _ => ∃ k : Nat, k ≤ L ∧ i = .int .i64 k ∧ Hid (∀ j, j < k → capN (bN l j) = true)) (fun i _ => L - (intOf i).toNat)
        case atStart => exact ⟨0, by omega, rfl, fun j hj => absurd hj (Nat.not_lt_zero _)⟩
        case round =>
          obtain ⟨k, hk, rfl, hok⟩ := hrel
          by_cases hlt : k < L
          · have hlti : (k : Int) < (T.size : Int) := by have := HTT.out; omega
            have i1 := HX.out k hlt
            have hbad := HBAD.out k hlt
            have hnext : Hid (capN (bN l k) = true → ∀ j, j < k + 1 → capN (bN l j) = true) := fun h j hj => by
              rcases Nat.lt_or_ge j k with g | g
              · exact hok.out j g
              · obtain rfl : j = k := by omega
                exact h
            obtain ⟨c, hc⟩ : ∃ c, bN l k = c := ⟨_, rfl⟩
            rw [hc] at i1 hbad hnext
            have HBD := hid hbad
            clear hc hbad hok
            cases hp : capN c with
            | true =>
              have HN := hid (hnext.out hp)
              unfold capN at hp
              simp only [Bool.or_eq_true, Bool.and_eq_true, decide_eq_true_eq] at hp
              clear hnext HBD
              rcases hp with hp | hp
              · have c1 : (65 : Int) ≤ (c : Int) := by omega
                have c2 : (c : Int) ≤ 90 := by omega
                clear hp
                go_wp2_with (fail)
                go_round
                case rel => exact ⟨k + 1, by omega, by go_num, HN.out⟩
                case measure => simp [intOf]; omega
              · have c1 : (48 : Int) ≤ (c : Int) := by omega
                have c2 : (c : Int) ≤ 57 := by omega
                have c3 : ¬ (65 : Int) ≤ (c : Int) := by omega
                clear hp
                go_wp2_with (fail)
                go_round
                case rel => exact ⟨k + 1, by omega, by go_num, HN.out⟩
                case measure => simp [intOf]; omega
            | false =>
              obtain rfl : R = false := HBD.out hp
              unfold capN at hp
              simp only [Bool.or_eq_false_iff, Bool.and_eq_false_imp, decide_eq_true_eq, decide_eq_false_iff_not] at hp
              have hc : ((c : Int) < 48) ∨ ((57 : Int) < (c : Int) ∧ (48 : Int) ≤ (c : Int) ∧ (c : Int) < 65) ∨ ((90 : Int) < (c : Int) ∧ (65 : Int) ≤ (c : Int) ∧ (48 : Int) ≤ (c : Int) ∧ (57 : Int) < (c : Int)) := by omega
              clear hp hnext HBD
              rcases hc with c1 | ⟨c1, c2, c6⟩ | ⟨c1, c2, c6, c7⟩
              · have c2 : ¬ (65 : Int) ≤ (c : Int) := by omega
                go_wp2_with (fail)
                go_ret
                exact ⟨rfl, hw0⟩
              · have e1 : decide ((c : Int) ≤ 57) = false := decide_eq_false (by omega)
                go_wp2_with (fail)
                go_ret
                exact ⟨rfl, hw0⟩
              · have e1 : decide ((c : Int) ≤ 57) = false := decide_eq_false (by omega)
                have e2 : decide ((c : Int) ≤ 90) = false := decide_eq_false (by omega)
                go_wp2_with (fail)
                go_ret
                exact ⟨rfl, hw0⟩
          · have hlti : ¬ (k : Int) < (T.size : Int) := by have := HTT.out; omega
            obtain rfl : L = k := by omega
            have hG := HGOOD.out hok.out
            clear hok
            by_cases u5 : u = 5
            · subst u5
              by_cases f0 : f = 0
              · subst f0
                obtain rfl : R = true := hG
                go_wp2_with (fail)
                go_ret
                exact ⟨rfl, hw0⟩
              · obtain rfl : R = false := by rw [hG]; unfold ufR; simp [f0]
                have f0b : (f == 0) = false := beq_eq_false_iff_ne.2 f0
                clear hG f0
                go_wp2_with (fail)
                go_ret
                exact ⟨rfl, hw0⟩
            · have u5b : (u == 5) = false := beq_eq_false_iff_ne.2 u5
              by_cases u4 : u = 4
              · subst u4
                by_cases f1 : 1 ≤ f
                · by_cases f2 : f ≤ 4096
                  · obtain rfl : R = true := by rw [hG]; unfold ufR; simp [f1, f2]
                    have e2 : decide (f ≤ 4096) = true := decide_eq_true f2
                    clear hG u5
                    go_wp2_with (fail)
                    go_ret
                    exact ⟨rfl, hw0⟩
                  · obtain rfl : R = false := by rw [hG]; unfold ufR; simp [f1, f2]
                    have e2 : decide (f ≤ 4096) = false := decide_eq_false f2
                    clear hG u5
                    go_wp2_with (fail)
                    go_ret
                    exact ⟨rfl, hw0⟩
                · obtain rfl : R = false := by rw [hG]; unfold ufR; simp [f1]
                  clear hG u5
                  go_wp2_with (fail)
                  go_ret
                  exact ⟨rfl, hw0⟩
              · have u4b : (u == 4) = false := beq_eq_false_iff_ne.2 u4
                obtain rfl : R = false := by rw [hG]; unfold ufR; simp [u5, u4]
                clear hG u5 u4
                go_wp2_with (fail)
                go_ret
                exact ⟨rfl, hw0⟩

set_option maxHeartbeats 2000000 in
theorem rgroup_any (S : ByteArray) (l : Int) (w : World) : Calls Tryd.prog 93 #[.agg #[.string S, .int .i64 l]] w fun e w' => e = .returned (.bool (grpOk ⟨S.data.toList, l⟩)) ∧ Chg [] w w' := by
  have c := fun W => rName_any S W
  obtain ⟨R, hR⟩ : ∃ R, grpOk ⟨S.data.toList, l⟩ = R := ⟨_, rfl⟩
  rw [hR]
  have HR : Hid (R = (nameOk S.data.toList && decide (S.size ≤ 35) && decide (1 ≤ l) && decide (l ≤ 255))) := hid (by rw [← hR]; unfold grpOk; rw [bs_len])
  obtain ⟨W0, hW0⟩ : ∃ W0, w.alloc (.cells #[.string S, .int .i64 l] 97) = W0 := ⟨_, rfl⟩
  have hbx : W0.heap[w.heap.size]? = some (.cells #[.string S, .int .i64 l] 97 (0, 0)) := by rw [← hW0]; exact al_new rfl
  have hw0 : Chg [] w W0 := by rw [← hW0]; exact Chg.alloc _ _ _
  obtain ⟨b0, b1⟩ := two_cells hbx
  have HW0 := hid hW0
  clear hR hbx hW0
  cases hn : nameOk S.data.toList with
  | false =>
    rw [hn] at c
    obtain rfl : R = false := by rw [HR.out, hn]; rfl
    clear hn
    go_enter Tryd.func93, Tryd.ntmps93
    go_wp2_with (first | (go_at_call 15; rw [HW0.out]; refine (c _).mono ?_; rintro e w' ⟨rfl, rfl⟩))
    go_ret
    exact ⟨rfl, hw0⟩
  | true =>
    rw [hn] at c
    by_cases h1 : S.size ≤ 35
    · have h1i : (S.size : Int) ≤ 35 := by omega
      have e1 : decide ((S.size : Int) ≤ 35) = true := decide_eq_true h1i
      by_cases h2 : 1 ≤ l
      · have e2 : decide (1 ≤ l) = true := decide_eq_true h2
        by_cases h3 : l ≤ 255
        · have e3 : decide (l ≤ 255) = true := decide_eq_true h3
          obtain rfl : R = true := by rw [HR.out, hn, decide_eq_true h1, e2, e3]; rfl
          clear hn
          go_enter Tryd.func93, Tryd.ntmps93
          go_wp2_with (first | (go_at_call 15; rw [HW0.out]; refine (c _).mono ?_; rintro e w' ⟨rfl, rfl⟩))
          go_ret
          exact ⟨rfl, hw0⟩
        · have e3 : decide (l ≤ 255) = false := decide_eq_false h3
          obtain rfl : R = false := by rw [HR.out, hn, decide_eq_true h1, e2, e3]; rfl
          clear hn
          go_enter Tryd.func93, Tryd.ntmps93
          go_wp2_with (first | (go_at_call 15; rw [HW0.out]; refine (c _).mono ?_; rintro e w' ⟨rfl, rfl⟩))
          go_ret
          exact ⟨rfl, hw0⟩
      · have e2 : decide (1 ≤ l) = false := decide_eq_false h2
        obtain rfl : R = false := by rw [HR.out, hn, decide_eq_true h1, e2]; rfl
        clear hn
        go_enter Tryd.func93, Tryd.ntmps93
        go_wp2_with (first | (go_at_call 15; rw [HW0.out]; refine (c _).mono ?_; rintro e w' ⟨rfl, rfl⟩))
        go_ret
        exact ⟨rfl, hw0⟩
    · have h1i : ¬ (S.size : Int) ≤ 35 := by omega
      have e1 : decide ((S.size : Int) ≤ 35) = false := decide_eq_false h1i
      obtain rfl : R = false := by rw [HR.out, hn, decide_eq_false h1]; rfl
      clear hn
      go_enter Tryd.func93, Tryd.ntmps93
      go_wp2_with (first | (go_at_call 15; rw [HW0.out]; refine (c _).mono ?_; rintro e w' ⟨rfl, rfl⟩))
      go_ret
      exact ⟨rfl, hw0⟩

end Go.Proofs.YtldkmclfhjcicaaDoor
