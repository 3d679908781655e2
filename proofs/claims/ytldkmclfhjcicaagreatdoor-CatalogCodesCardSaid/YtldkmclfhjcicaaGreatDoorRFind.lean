import Derived.WalkSpells
import Derived.Outline
import Derived.Test.YtldkmclfhjcicaaGreatDoorRNam
import Derived.Test.YtldkmclfhjcicaaGreatDoorCSk
import Derived.Test.YtldkmclfhjcicaaGreatDoorCByF
import Derived.Test.YtldkmclfhjcicaaGreatDoorCatP

namespace Go.Proofs.YtldkmclfhjcicaaGreatDoor
open Go.RowKit
set_option linter.unusedVariables false
set_option linter.unusedSimpArgs false
theorem own_neR {w : World} {B e k n b : Nat} {v : Value} {xs : List Value} {cs : Array Value} {T : TypeId} {fr : Nat × Nat} (h : w.ownsRow B e k v n xs) (hb : w.heap[b]? = some (.cells cs T fr)) (hT : T ≠ e) : ∀ j ∈ own v, j ∉ [b] := by
  intro j hj
  rw [List.mem_singleton]
  rintro rfl
  rcases h.2 with ⟨rfl, _⟩ | ⟨g, cap, cur, rfl, _, hg, _⟩
  · simp [own, Value.ownBlock] at hj
  · simp [own, Value.ownBlock] at hj
    subst hj
    rw [hb] at hg
    cases hg
    exact hT rfl

theorem numS_pos (b s : Bs) (hs : s.length = 9) : numS b (b ++ s) = if s.take 2 = [46, 71] ∧ s.drop 6 = [86, 48, 48] ∧ digK (s.drop 2) 4 = true then accN (s.drop 2) 4 else 0 := by
  rw [numS_7]
  have hd : (b ++ s).drop (b.length + 2) = s.drop 2 := by rw [List.drop_append]; simp
  have hp : (b ++ [46, 71]) <+: (b ++ s) ↔ s.take 2 = [46, 71] := by
    rw [List.prefix_append_right_inj]
    constructor
    · rintro ⟨t, rfl⟩; rfl
    · intro h; exact ⟨s.drop 2, by rw [← h]; exact List.take_append_drop 2 s⟩
  by_cases h : s.take 2 = [46, 71]
  · rw [if_pos (hp.2 h), hd]
    unfold tail7
    have h7 : (s.drop 2).length = 7 := by rw [List.length_drop]; omega
    have h4 : (s.drop 2).drop 4 = s.drop 6 := by rw [List.drop_drop]
    by_cases g : s.drop 6 = [86, 48, 48] ∧ digK (s.drop 2) 4 = true
    · rw [if_pos ⟨h7, by rw [h4]; exact g.1, g.2⟩, if_pos ⟨h, g⟩]
    · rw [if_neg (fun q => g ⟨by rw [← h4]; exact q.2.1, q.2.2⟩), if_neg (fun q => g q.2)]
  · rw [if_neg (fun q => h (hp.1 q)), if_neg (fun q => h q.1)]

set_option maxHeartbeats 4000000 in
theorem rnumber_any (A N : ByteArray) (hA : A.size ≤ 1000000) (w : World) : Calls Tryz.prog 65 #[.string A, .string N] w fun e w' => e = .returned (.int .i64 (numS A.data.toList N.data.toList : Nat)) ∧ w = w' := by
  obtain ⟨R, hR⟩ : ∃ R, numS A.data.toList N.data.toList = R := ⟨_, rfl⟩
  rw [hR]
  by_cases hl : N.size = A.size + 9
  · by_cases ht : N.data.toList.take A.size = A.data.toList
    · obtain ⟨T, hT⟩ : ∃ T, N.extract A.size (A.size + 9) = T := ⟨_, rfl⟩
      have hTd : T.data.toList = N.data.toList.drop A.size := by rw [← hT, ext_data, List.take_of_length_le (by rw [List.length_drop, bs_len]; omega)]
      have hTs : T.size = 9 := by rw [← hT, ByteArray.size_extract]; omega
      obtain ⟨s, hs⟩ : ∃ s, T.data.toList = s := ⟨_, rfl⟩
      have hsl : s.length = 9 := by rw [← hs, bs_len, hTs]
      have hNs : N.data.toList = A.data.toList ++ s := by rw [← hs, hTd]; conv => lhs; rw [← List.take_append_drop A.size N.data.toList, ht]
      have HR : Hid ((if s.take 2 = [46, 71] ∧ s.drop 6 = [86, 48, 48] ∧ digK (s.drop 2) 4 = true then accN (s.drop 2) 4 else 0) = R) := hid (by rw [← hR, hNs, numS_pos _ _ hsl])
      have HI : Hid (∀ k : Nat, k < 4 → ∀ W, (Instr.index 9 (.string T) (.int .i64 ((k : Int) + 2))).run Tryz.prog W = .ok (.int .u8 (bN (s.drop 2) k : Nat)) W) := hid (fun k hk W => by
        have h := idx_str T (k + 2) (by omega) W
        rw [hs, show ((k + 2 : Nat) : Int) = (k : Int) + 2 from by omega] at h
        rw [h]
        unfold bN
        rw [List.getD_eq_getElem?_getD, List.getD_eq_getElem?_getD, List.getElem?_drop, Nat.add_comm])
      have cmp1 : (!(N.extract 0 A.size).toList == A.toList) = false := by rw [str_eq, ext_data]; simp [ht]
      have hN9 : ((N.size : Int) != (A.size : Int) + 9) = false := by simp; omega
      have hN9' : (N.size : Int) = (A.size : Int) + 9 := by omega
      have c2 : (!(T.extract 0 2).toList == ([46, 71] : List UInt8)) = !(decide (s.take 2 = [46, 71])) := by
        rw [ByteArray.toList_eq, ext_data, hs]; congr 1; rw [Bool.eq_iff_iff]; simp
      have c6 : (!(T.extract 6 9).toList == ([86, 48, 48] : List UInt8)) = !(decide (s.drop 6 = [86, 48, 48])) := by
        rw [ByteArray.toList_eq, ext_data, hs, List.take_of_length_le (by rw [List.length_drop]; omega)]; congr 1; rw [Bool.eq_iff_iff]; simp
      have HC1 := hid cmp1
      have HC2 := hid c2
      have HC6 := hid c6
      have HT := hid hT
      clear hR ht hT hTd hs hNs cmp1 c2 c6 hsl
      go_enter Tryz.func65, Tryz.ntmps65
      have cmp1 := HC1.out
      go_wp2_with (fail)
      rw [HT.out]
      clear cmp1 hN9 hN9'
      go_loop [6, 7] (fun s6 s7 => ∃ k : Nat, k ≤ 4 ∧ s7 = .int .i64 ((k : Int) + 2) ∧ s6 = .int .i64 (accN (s.drop 2) k : Nat) ∧ Hid (∀ i < k, 48 ≤ bN (s.drop 2) i ∧ bN (s.drop 2) i ≤ 57)) (fun _ i => 6 - (intOf i).toNat)
      case atStart => exact ⟨0, by omega, rfl, rfl, fun i hi => absurd hi (by omega)⟩
      case round =>
        obtain ⟨k, hk, rfl, rfl, hd⟩ := hrel
        obtain ⟨t, ht⟩ : ∃ t, s.drop 2 = t := ⟨_, rfl⟩
        rw [ht] at HI HR hd ⊢
        have hacc := accN_lt t k hd.out
        have hp4 : 10 ^ k ≤ 10 ^ 4 := Nat.pow_le_pow_right (by decide) hk
        have HA := hid (show accN t (k + 1) = 10 * accN t k + (bN t k - 48) from rfl)
        have hac : accN t k < 10000 := by omega
        clear hacc hp4
        obtain ⟨a, ha⟩ : ∃ a, accN t k = a := ⟨_, rfl⟩
        rw [ha] at HA hac ⊢
        have HAe := hid ha
        clear ha
        by_cases hlt : k < 4
        · have i1 := HI.out k hlt
          have hlti : (k : Int) + 2 < 6 := by omega
          by_cases h1 : (bN t k : Int) < 48
          · obtain rfl : 0 = R := by
              rw [← HR.out]; rw [if_neg]; rintro ⟨_, _, h⟩; have := (digK_iff t 4).1 h k hlt; omega
            clear HA ht
            generalize bN t k = c at *
            go_wp2
            go_ret
            exact ⟨rfl, rfl⟩
          · by_cases h2 : (57 : Int) < (bN t k : Int)
            · obtain rfl : 0 = R := by
                rw [← HR.out]; rw [if_neg]; rintro ⟨_, _, h⟩; have := (digK_iff t 4).1 h k hlt; omega
              clear HA ht
              generalize bN t k = c at *
              go_wp2
              go_ret
              exact ⟨rfl, rfl⟩
            · have hd2 : Hid (∀ i < k + 1, 48 ≤ bN t i ∧ bN t i ≤ 57) := fun i hi => by
                rcases Nat.lt_or_ge i k with h | h
                · exact hd.out i h
                · obtain rfl : i = k := by omega
                  omega
              have HTT := hid ht
              clear ht
              generalize bN t k = c at *
              go_wp2
              go_round
              case rel => exact ⟨k + 1, by omega, by go_num, by rw [HA.out]; go_num, hd2⟩
              case measure => simp [intOf]; omega
        · obtain rfl : k = 4 := by omega
          have hdk := (digK_iff t 4).2 hd.out
          have c2 := HC2.out
          have c6 := HC6.out
          clear HA ht
          by_cases g1 : s.take 2 = [46, 71]
          · rw [decide_eq_true g1] at c2
            by_cases g2 : s.drop 6 = [86, 48, 48]
            · rw [decide_eq_true g2] at c6
              obtain rfl : accN t 4 = R := by rw [← HR.out, if_pos ⟨g1, g2, hdk⟩]
              clear g1 g2 hdk
              go_wp2
              go_ret
              exact ⟨ret_int (by rw [HAe.out]), rfl⟩
            · rw [decide_eq_false g2] at c6
              obtain rfl : 0 = R := by rw [← HR.out, if_neg (fun q => g2 q.2.1)]
              clear g1 g2 hdk
              go_wp2
              go_ret
              exact ⟨rfl, rfl⟩
          · rw [decide_eq_false g1] at c2
            obtain rfl : 0 = R := by rw [← HR.out, if_neg (fun q => g1 q.1)]
            clear g1 hdk
            go_wp2
            go_ret
            exact ⟨rfl, rfl⟩
    · obtain rfl : 0 = R := by
        rw [← hR]; unfold numS; rw [bs_len, if_neg ht]
      have cmp1 : (!(N.extract 0 A.size).toList == A.toList) = true := by rw [str_eq, ext_data]; simp [ht]
      have hN9 : ((N.size : Int) != (A.size : Int) + 9) = false := by simp; omega
      have hN9' : (N.size : Int) = (A.size : Int) + 9 := by omega
      clear hR ht
      go_enter Tryz.func65, Tryz.ntmps65
      go_wp2_with (fail)
      go_ret
      exact ⟨rfl, rfl⟩
  · obtain rfl : 0 = R := by
      rw [← hR]
      by_cases h0 : numS A.data.toList N.data.toList = 0
      · exact h0.symm
      · have := numS_len _ _ h0
        rw [bs_len, bs_len] at this; omega
    have hN9 : ((N.size : Int) != (A.size : Int) + 9) = true := by simp; omega
    have hN8 : ((N.size : Int) == (A.size : Int) + 9) = false := by simp; omega
    clear hR
    go_enter Tryz.func65, Tryz.ntmps65
    go_wp2_with (fail)
    go_ret
    exact ⟨rfl, rfl⟩

end Go.Proofs.YtldkmclfhjcicaaGreatDoor

namespace Go.Proofs.YtldkmclfhjcicaaGreatDoor
open Go.RowKit
set_option linter.unusedVariables false
set_option linter.unusedSimpArgs false

def capN (n : Nat) : Bool := (decide (65 ≤ n) && decide (n ≤ 90)) || (decide (48 ≤ n) && decide (n ≤ 57))
theorem capC_N (c : UInt8) : capC c = capN c.toNat := rfl
def ufR (u f : Int) : Bool := decide (u = 5) && decide (f = 0) || decide (u = 4) && decide (1 ≤ f) && decide (f ≤ 4096)

set_option maxHeartbeats 8000000 in
theorem rentry_any (S T : ByteArray) (u f : Int) (w : World) : Calls Tryz.prog 34 #[.agg #[.string S, .int .i64 u, .string T, .int .i64 f]] w fun e w' =>
    e = .returned (.bool (entOk ⟨S.data.toList, u, T.data.toList, f⟩)) ∧ Chg [] w w' := by
  have c := fun W => rName_any S W
  obtain ⟨l, hl⟩ : ∃ l, T.data.toList = l := ⟨_, rfl⟩
  obtain ⟨L, hL⟩ : ∃ L, T.size = L := ⟨_, rfl⟩
  have hll : l.length = L := by rw [← hl, bs_len, hL]
  obtain ⟨R, hR⟩ : ∃ R, entOk ⟨S.data.toList, u, l, f⟩ = R := ⟨_, rfl⟩
  rw [hl, hR]
  have HR : Hid (R = (nameOk S.data.toList && (decide (1 ≤ L) && decide (L ≤ 6) && l.all capC) && ufR u f)) := hid (by rw [← hR]; unfold entOk ufR; rw [hll])
  have HX : Hid (∀ k : Nat, k < L → ∀ W, (Instr.index 9 (.string T) (.int .i64 (k : Int))).run Tryz.prog W = .ok (.int .u8 (bN l k : Nat)) W) := fun k hk W => by rw [← hl]; exact idx_str T k (by omega) W
  have HALL := hid (all_bN capC capN capC_N l)
  rw [hll] at HALL
  obtain ⟨W0, hW0⟩ : ∃ W0, w.alloc (.cells #[.string S, .int .i64 u, .string T, .int .i64 f] 45) = W0 := ⟨_, rfl⟩
  have hbx : W0.heap[w.heap.size]? = some (.cells #[.string S, .int .i64 u, .string T, .int .i64 f] 45 (0, 0)) := by rw [← hW0]; exact al_new rfl
  have hw0 : Chg [] w W0 := by rw [← hW0]; exact Chg.alloc _ _ _
  obtain ⟨b0, b1, b2, b3⟩ := four_at hbx
  have HW0 := hid hW0
  have hTT : (T.size : Int) = (L : Int) := by omega
  have HTT := hid hTT
  clear hTT hR hl hll hbx hW0
  cases hn : nameOk S.data.toList with
  | false =>
    rw [hn] at c
    obtain rfl : R = false := by rw [HR.out, hn]; rfl
    clear hn
    go_enter Tryz.func34, Tryz.ntmps34
    go_wp2_with (first | (go_at_call 67; rw [HW0.out]; refine (c _).mono ?_; rintro e w' ⟨rfl, rfl⟩))
    go_ret
    exact ⟨rfl, hw0⟩
  | true =>
    rw [hn] at c
    by_cases h1 : L < 1
    · obtain rfl : R = false := by rw [HR.out, hn, decide_eq_false (by omega)]; rfl
      have h1i : (T.size : Int) < 1 := by have := HTT.out; omega
      clear hn
      go_enter Tryz.func34, Tryz.ntmps34
      go_wp2_with (first | (go_at_call 67; rw [HW0.out]; refine (c _).mono ?_; rintro e w' ⟨rfl, rfl⟩))
      go_ret
      exact ⟨rfl, hw0⟩
    · have h1i : ¬ (T.size : Int) < 1 := by have := HTT.out; omega
      by_cases h6 : 6 < L
      · obtain rfl : R = false := by rw [HR.out, hn, decide_eq_true (by omega : 1 ≤ L), decide_eq_false (by omega : ¬ L ≤ 6)]; rfl
        have h6i : (6 : Int) < (T.size : Int) := by have := HTT.out; omega
        clear hn
        go_enter Tryz.func34, Tryz.ntmps34
        go_wp2_with (first | (go_at_call 67; rw [HW0.out]; refine (c _).mono ?_; rintro e w' ⟨rfl, rfl⟩))
        go_ret
        exact ⟨rfl, hw0⟩
      · have h6i : ¬ (6 : Int) < (T.size : Int) := by have := HTT.out; omega
        have HRA : Hid (R = (l.all capC && ufR u f)) := hid (by rw [HR.out, hn, decide_eq_true (by omega : 1 ≤ L), decide_eq_true (by omega : L ≤ 6)]; rfl)
        have HBAD : Hid (∀ k, k < L → capN (bN l k) = false → R = false) := fun k hk hb => by
          rw [HRA.out]
          cases ha : l.all capC with
          | false => rfl
          | true => have := HALL.out.1 ha k hk; rw [hb] at this; cases this
        have HGOOD : Hid ((∀ k, k < L → capN (bN l k) = true) → R = ufR u f) := fun h => by rw [HRA.out, HALL.out.2 h]; rfl
        clear hn HR HALL HRA
        go_enter Tryz.func34, Tryz.ntmps34
        go_wp2_with (first | (go_at_call 67; rw [HW0.out]; refine (c _).mono ?_; rintro e w' ⟨rfl, rfl⟩))
        go_loop [3, 4] (fun i _ => ∃ k : Nat, k ≤ L ∧ i = .int .i64 k ∧ Hid (∀ j, j < k → capN (bN l j) = true)) (fun i _ => L - (intOf i).toNat)
        case atStart => exact ⟨0, by omega, rfl, fun j hj => absurd hj (Nat.not_lt_zero _)⟩
        case round =>
          obtain ⟨k, hk, rfl, hok⟩ := hrel
          by_cases hlt : k < L
          · have hlti : (k : Int) < (T.size : Int) := by have := HTT.out; omega
            have i1 := HX.out k hlt
            have hbad := HBAD.out k hlt
            have hnext : Hid (capN (bN l k) = true → ∀ j, j < k + 1 → capN (bN l j) = true) := fun h j hj => by
              rcases Nat.lt_or_ge j k with g | g
              · exact hok.out j g
              · obtain rfl : j = k := by omega
                exact h
            obtain ⟨c, hc⟩ : ∃ c, bN l k = c := ⟨_, rfl⟩
            rw [hc] at i1 hbad hnext
            have HBD := hid hbad
            clear hc hbad hok
            cases hp : capN c with
            | true =>
              have HN := hid (hnext.out hp)
              unfold capN at hp
              simp only [Bool.or_eq_true, Bool.and_eq_true, decide_eq_true_eq] at hp
              clear hnext HBD
              rcases hp with hp | hp
              · have c1 : (65 : Int) ≤ (c : Int) := by omega
                have c2 : (c : Int) ≤ 90 := by omega
                clear hp
                go_wp2_with (fail)
                go_round
                case rel => exact ⟨k + 1, by omega, by go_num, HN.out⟩
                case measure => simp [intOf]; omega
              · have c1 : (48 : Int) ≤ (c : Int) := by omega
                have c2 : (c : Int) ≤ 57 := by omega
                have c3 : ¬ (65 : Int) ≤ (c : Int) := by omega
                clear hp
                go_wp2_with (fail)
                go_round
                case rel => exact ⟨k + 1, by omega, by go_num, HN.out⟩
                case measure => simp [intOf]; omega
            | false =>
              obtain rfl : R = false := HBD.out hp
              unfold capN at hp
              simp only [Bool.or_eq_false_iff, Bool.and_eq_false_imp, decide_eq_true_eq, decide_eq_false_iff_not] at hp
              have hc : ((c : Int) < 48) ∨ ((57 : Int) < (c : Int) ∧ (48 : Int) ≤ (c : Int) ∧ (c : Int) < 65) ∨ ((90 : Int) < (c : Int) ∧ (65 : Int) ≤ (c : Int) ∧ (48 : Int) ≤ (c : Int) ∧ (57 : Int) < (c : Int)) := by omega
              clear hp hnext HBD
              rcases hc with c1 | ⟨c1, c2, c6⟩ | ⟨c1, c2, c6, c7⟩
              · have c2 : ¬ (65 : Int) ≤ (c : Int) := by omega
                go_wp2_with (fail)
                go_ret
                exact ⟨rfl, hw0⟩
              · have e1 : decide ((c : Int) ≤ 57) = false := decide_eq_false (by omega)
                go_wp2_with (fail)
                go_ret
                exact ⟨rfl, hw0⟩
              · have e1 : decide ((c : Int) ≤ 57) = false := decide_eq_false (by omega)
                have e2 : decide ((c : Int) ≤ 90) = false := decide_eq_false (by omega)
                go_wp2_with (fail)
                go_ret
                exact ⟨rfl, hw0⟩
          · have hlti : ¬ (k : Int) < (T.size : Int) := by have := HTT.out; omega
            obtain rfl : L = k := by omega
            have hG := HGOOD.out hok.out
            clear hok
            by_cases u5 : u = 5
            · subst u5
              by_cases f0 : f = 0
              · subst f0
                obtain rfl : R = true := hG
                go_wp2_with (fail)
                go_ret
                exact ⟨rfl, hw0⟩
              · obtain rfl : R = false := by rw [hG]; unfold ufR; simp [f0]
                have f0b : (f == 0) = false := beq_eq_false_iff_ne.2 f0
                clear hG f0
                go_wp2_with (fail)
                go_ret
                exact ⟨rfl, hw0⟩
            · have u5b : (u == 5) = false := beq_eq_false_iff_ne.2 u5
              by_cases u4 : u = 4
              · subst u4
                by_cases f1 : 1 ≤ f
                · by_cases f2 : f ≤ 4096
                  · obtain rfl : R = true := by rw [hG]; unfold ufR; simp [f1, f2]
                    have e2 : decide (f ≤ 4096) = true := decide_eq_true f2
                    clear hG u5
                    go_wp2_with (fail)
                    go_ret
                    exact ⟨rfl, hw0⟩
                  · obtain rfl : R = false := by rw [hG]; unfold ufR; simp [f1, f2]
                    have e2 : decide (f ≤ 4096) = false := decide_eq_false f2
                    clear hG u5
                    go_wp2_with (fail)
                    go_ret
                    exact ⟨rfl, hw0⟩
                · obtain rfl : R = false := by rw [hG]; unfold ufR; simp [f1]
                  clear hG u5
                  go_wp2_with (fail)
                  go_ret
                  exact ⟨rfl, hw0⟩
              · have u4b : (u == 4) = false := beq_eq_false_iff_ne.2 u4
                obtain rfl : R = false := by rw [hG]; unfold ufR; simp [u5, u4]
                clear hG u5 u4
                go_wp2_with (fail)
                go_ret
                exact ⟨rfl, hw0⟩

set_option maxHeartbeats 2000000 in
theorem rgroup_any (S : ByteArray) (l : Int) (w : World) : Calls Tryz.prog 35 #[.agg #[.string S, .int .i64 l]] w fun e w' => e = .returned (.bool (grpOk ⟨S.data.toList, l⟩)) ∧ Chg [] w w' := by
  have c := fun W => rName_any S W
  obtain ⟨R, hR⟩ : ∃ R, grpOk ⟨S.data.toList, l⟩ = R := ⟨_, rfl⟩
  rw [hR]
  have HR : Hid (R = (nameOk S.data.toList && decide (S.size ≤ 35) && decide (1 ≤ l) && decide (l ≤ 255))) := hid (by rw [← hR]; unfold grpOk; rw [bs_len])
  obtain ⟨W0, hW0⟩ : ∃ W0, w.alloc (.cells #[.string S, .int .i64 l] 47) = W0 := ⟨_, rfl⟩
  have hbx : W0.heap[w.heap.size]? = some (.cells #[.string S, .int .i64 l] 47 (0, 0)) := by rw [← hW0]; exact al_new rfl
  have hw0 : Chg [] w W0 := by rw [← hW0]; exact Chg.alloc _ _ _
  obtain ⟨b0, b1⟩ := two_cells hbx
  have HW0 := hid hW0
  clear hR hbx hW0
  cases hn : nameOk S.data.toList with
  | false =>
    rw [hn] at c
    obtain rfl : R = false := by rw [HR.out, hn]; rfl
    clear hn
    go_enter Tryz.func35, Tryz.ntmps35
    go_wp2_with (first | (go_at_call 67; rw [HW0.out]; refine (c _).mono ?_; rintro e w' ⟨rfl, rfl⟩))
    go_ret
    exact ⟨rfl, hw0⟩
  | true =>
    rw [hn] at c
    by_cases h1 : S.size ≤ 35
    · have h1i : (S.size : Int) ≤ 35 := by omega
      have e1 : decide ((S.size : Int) ≤ 35) = true := decide_eq_true h1i
      by_cases h2 : 1 ≤ l
      · have e2 : decide (1 ≤ l) = true := decide_eq_true h2
        by_cases h3 : l ≤ 255
        · have e3 : decide (l ≤ 255) = true := decide_eq_true h3
          obtain rfl : R = true := by rw [HR.out, hn, decide_eq_true h1, e2, e3]; rfl
          clear hn
          go_enter Tryz.func35, Tryz.ntmps35
          go_wp2_with (first | (go_at_call 67; rw [HW0.out]; refine (c _).mono ?_; rintro e w' ⟨rfl, rfl⟩))
          go_ret
          exact ⟨rfl, hw0⟩
        · have e3 : decide (l ≤ 255) = false := decide_eq_false h3
          obtain rfl : R = false := by rw [HR.out, hn, decide_eq_true h1, e2, e3]; rfl
          clear hn
          go_enter Tryz.func35, Tryz.ntmps35
          go_wp2_with (first | (go_at_call 67; rw [HW0.out]; refine (c _).mono ?_; rintro e w' ⟨rfl, rfl⟩))
          go_ret
          exact ⟨rfl, hw0⟩
      · have e2 : decide (1 ≤ l) = false := decide_eq_false h2
        obtain rfl : R = false := by rw [HR.out, hn, decide_eq_true h1, e2]; rfl
        clear hn
        go_enter Tryz.func35, Tryz.ntmps35
        go_wp2_with (first | (go_at_call 67; rw [HW0.out]; refine (c _).mono ?_; rintro e w' ⟨rfl, rfl⟩))
        go_ret
        exact ⟨rfl, hw0⟩
    · have h1i : ¬ (S.size : Int) ≤ 35 := by omega
      have e1 : decide ((S.size : Int) ≤ 35) = false := decide_eq_false h1i
      obtain rfl : R = false := by rw [HR.out, hn, decide_eq_false h1]; rfl
      clear hn
      go_enter Tryz.func35, Tryz.ntmps35
      go_wp2_with (first | (go_at_call 67; rw [HW0.out]; refine (c _).mono ?_; rintro e w' ⟨rfl, rfl⟩))
      go_ret
      exact ⟨rfl, hw0⟩

end Go.Proofs.YtldkmclfhjcicaaGreatDoor

namespace Go.Proofs.YtldkmclfhjcicaaGreatDoor
open Go.RowKit
set_option linter.unusedVariables false
set_option linter.unusedSimpArgs false

theorem RdE.opt {w : World} {v : Value} {es : List Ent} (h : RdE w v es) {L : Nat} (hL : es.length = L) : ∃ ea ec, v = .slice ea L ec ∧ Hid (∀ i, i < L → ∃ bb off, ea = some ⟨bb, off, none⟩ ∧ bb < w.heap.size ∧ w.cell? ⟨bb, off + i * 4, none⟩ = some (.string ⟨(es.getD i default).name.toArray⟩) ∧ w.cell? ⟨bb, off + i * 4 + 1, none⟩ = some (.int .i64 (es.getD i default).unit) ∧
        w.cell? ⟨bb, off + i * 4 + 2, none⟩ = some (.string ⟨(es.getD i default).serial.toArray⟩) ∧ w.cell? ⟨bb, off + i * 4 + 3, none⟩ = some (.int .i64 (es.getD i default).file)) := by
  rcases h.parts hL with ⟨_, h0, a, cap, rfl⟩ | ⟨bb, off, cap, rfl, h1, h2, h3, hbb, hc⟩
  · exact ⟨a, cap, by rw [h0], fun i hi => by omega⟩
  · exact ⟨_, _, rfl, fun i hi => ⟨bb, off, rfl, hbb, hc.out i hi⟩⟩
theorem RdG.opt {w : World} {v : Value} {gs : List Grp} (h : RdG w v gs) {L : Nat} (hL : gs.length = L) : ∃ ea ec, v = .slice ea L ec ∧ Hid (∀ i, i < L → ∃ bb off, ea = some ⟨bb, off, none⟩ ∧ bb < w.heap.size ∧ w.cell? ⟨bb, off + i * 2, none⟩ = some (.string ⟨(gs.getD i default).base.toArray⟩) ∧ w.cell? ⟨bb, off + i * 2 + 1, none⟩ = some (.int .i64 (gs.getD i default).limit)) := by
  rcases h.parts hL with ⟨_, h0, a, cap, rfl⟩ | ⟨bb, off, cap, rfl, h1, h2, h3, hbb, hc⟩
  · exact ⟨a, cap, by rw [h0], fun i hi => by omega⟩
  · exact ⟨_, _, rfl, fun i hi => ⟨bb, off, rfl, hbb, hc.out i hi⟩⟩
-- BEGIN

set_option maxHeartbeats 4000000 in
theorem rfind_any (w : World) (ve vg : Value) (c : Cat) (hv : RdC w ve vg c) (Q : ByteArray) (hM : c.es.length ≤ 1000000) : Calls Tryz.prog 36 #[.agg #[ve, vg], .string Q] w fun e w' =>
    e = .returned (.int .i64 (fIdx (namesS c.es) Q.data.toList)) ∧ Chg [] w w' := by
  obtain ⟨L, hL⟩ : ∃ L, c.es.length = L := ⟨_, rfl⟩
  obtain ⟨R, hR⟩ : ∃ R, fIdx (namesS c.es) Q.data.toList = R := ⟨_, rfl⟩
  rw [hR]
  have hln : (namesS c.es).length = L := by unfold namesS; rw [List.length_map]; exact hL
  have HHIT : Hid (∀ k, k < L → (∀ j < k, (c.es.getD j default).name ≠ Q.data.toList) → (c.es.getD k default).name = Q.data.toList → R = k) := fun k hk ha he => by
    rw [← hR]
    exact fIdx_hit (by rw [hln]; exact hk) (fun j hj => by rw [names_getD c.es j (by omega)]; exact ha j hj) (by rw [names_getD c.es k (by omega)]; exact he)
  have HMISS : Hid ((∀ j < L, (c.es.getD j default).name ≠ Q.data.toList) → R = -1) := fun ha => by
    rw [← hR]
    exact fIdx_miss (fun j hj => by rw [hln] at hj; rw [names_getD c.es j (by omega)]; exact ha j hj)
  rw [hL] at hM
  obtain ⟨ea, ec, rfl, HC⟩ := (hv.1).opt hL
  obtain ⟨W0, hW0⟩ : ∃ W0, w.alloc (.cells #[.slice ea L ec, vg] 31) = W0 := ⟨_, rfl⟩
  have hbx : W0.heap[w.heap.size]? = some (.cells #[.slice ea L ec, vg] 31 (0, 0)) := by rw [← hW0]; exact al_new rfl
  have hw0 : Chg [] w W0 := by rw [← hW0]; exact Chg.alloc _ _ _
  obtain ⟨b0, b1⟩ := two_cells hbx
  have HW0 := hid hW0
  clear hv hL hln hR hbx hW0
  go_enter Tryz.func36, Tryz.ntmps36
  go_wp2_with (fail)
  rw [HW0.out]
  go_loop [5] (fun i => ∃ k : Nat, k ≤ L ∧ i = .int .i64 k ∧ Hid (∀ j < k, (c.es.getD j default).name ≠ Q.data.toList)) (fun i => L - (intOf i).toNat)
  case atStart => exact ⟨0, by omega, rfl, (fun j hj => absurd hj (Nat.not_lt_zero _))⟩
  case round =>
    obtain ⟨k, hk, rfl, hno⟩ := hrel
    by_cases hlt : k < L
    · obtain ⟨bb, off, rfl, hbb, k0, k1, k2, k3⟩ := HC.out k hlt
      have hlti : (k : Int) < (L : Int) := by omega
      replace k0 := hw0.cell k0 (by simp)
      have hhit := HHIT.out k hlt hno.out
      have HX : Hid (∀ x, c.es.getD k default = x → x.name ≠ Q.data.toList → ∀ j < k + 1, (c.es.getD j default).name ≠ Q.data.toList) := fun x hx hn j hj => by
        rcases Nat.lt_or_ge j k with h | h
        · exact hno.out j h
        · obtain rfl : j = k := by omega
          rw [hx]; exact hn
      obtain ⟨x, hx⟩ : ∃ x, c.es.getD k default = x := ⟨_, rfl⟩
      rw [hx] at k0 hhit
      have HX' := hid (HX.out x hx)
      clear hx HX k1 k2 k3
      have HHH := hid hhit
      obtain ⟨X, hXe⟩ : ∃ X : ByteArray, (⟨x.name.toArray⟩ : ByteArray) = X := ⟨_, rfl⟩
      have hXd : x.name = X.data.toList := by rw [← hXe]
      rw [hXe] at k0
      by_cases hn : X.data.toList = Q.data.toList
      · obtain rfl : R = (k : Nat) := HHH.out (by rw [hXd]; exact hn)
        obtain rfl : X = Q := str_inj hn
        clear hn hXd hXe hhit
        go_wp2_with (fail)
        go_ret
        exact ⟨rfl, hw0⟩
      · have HN := hid (HX'.out (by rw [hXd]; exact hn))
        have hcmp : (X.toList == Q.toList) = false := by rw [str_eq, decide_eq_false hn]
        clear hn hXd hXe hhit
        go_wp2_with (fail)
        go_round
        case rel => exact ⟨k + 1, by omega, by go_num, HN.out⟩
        case measure => simp [intOf]; omega
    · obtain rfl : k = L := by omega
      obtain rfl : R = -1 := HMISS.out hno.out
      go_wp2_with (fail)
      go_ret
      exact ⟨rfl, hw0⟩

set_option maxHeartbeats 4000000 in
theorem rbase_any (w : World) (ve vg : Value) (c : Cat) (hv : RdC w ve vg c) (Q : ByteArray) (hM : c.gs.length ≤ 1000000) : Calls Tryz.prog 63 #[.agg #[ve, vg], .string Q] w fun e w' =>
    e = .returned (.int .i64 (fIdx (basesS c.gs) Q.data.toList)) ∧ Chg [] w w' := by
  obtain ⟨L, hL⟩ : ∃ L, c.gs.length = L := ⟨_, rfl⟩
  obtain ⟨R, hR⟩ : ∃ R, fIdx (basesS c.gs) Q.data.toList = R := ⟨_, rfl⟩
  rw [hR]
  have hln : (basesS c.gs).length = L := by unfold basesS; rw [List.length_map]; exact hL
  have HHIT : Hid (∀ k, k < L → (∀ j < k, (c.gs.getD j default).base ≠ Q.data.toList) → (c.gs.getD k default).base = Q.data.toList → R = k) := fun k hk ha he => by
    rw [← hR]
    exact fIdx_hit (by rw [hln]; exact hk) (fun j hj => by rw [bases_getD c.gs j (by omega)]; exact ha j hj) (by rw [bases_getD c.gs k (by omega)]; exact he)
  have HMISS : Hid ((∀ j < L, (c.gs.getD j default).base ≠ Q.data.toList) → R = -1) := fun ha => by
    rw [← hR]
    exact fIdx_miss (fun j hj => by rw [hln] at hj; rw [bases_getD c.gs j (by omega)]; exact ha j hj)
  rw [hL] at hM
  obtain ⟨ea, ec, rfl, HC⟩ := (hv.2).opt hL
  obtain ⟨W0, hW0⟩ : ∃ W0, w.alloc (.cells #[ve, .slice ea L ec] 31) = W0 := ⟨_, rfl⟩
  have hbx : W0.heap[w.heap.size]? = some (.cells #[ve, .slice ea L ec] 31 (0, 0)) := by rw [← hW0]; exact al_new rfl
  have hw0 : Chg [] w W0 := by rw [← hW0]; exact Chg.alloc _ _ _
  obtain ⟨b0, b1⟩ := two_cells hbx
  have HW0 := hid hW0
  clear hv hL hln hR hbx hW0
  go_enter Tryz.func63, Tryz.ntmps63
  go_wp2_with (fail)
  rw [HW0.out]
  go_loop [5] (fun i => ∃ k : Nat, k ≤ L ∧ i = .int .i64 k ∧ Hid (∀ j < k, (c.gs.getD j default).base ≠ Q.data.toList)) (fun i => L - (intOf i).toNat)
  case atStart => exact ⟨0, by omega, rfl, (fun j hj => absurd hj (Nat.not_lt_zero _))⟩
  case round =>
    obtain ⟨k, hk, rfl, hno⟩ := hrel
    by_cases hlt : k < L
    · obtain ⟨bb, off, rfl, hbb, k0, k1⟩ := HC.out k hlt
      have hlti : (k : Int) < (L : Int) := by omega
      replace k0 := hw0.cell k0 (by simp)
      have hhit := HHIT.out k hlt hno.out
      have HX : Hid (∀ x, c.gs.getD k default = x → x.base ≠ Q.data.toList → ∀ j < k + 1, (c.gs.getD j default).base ≠ Q.data.toList) := fun x hx hn j hj => by
        rcases Nat.lt_or_ge j k with h | h
        · exact hno.out j h
        · obtain rfl : j = k := by omega
          rw [hx]; exact hn
      obtain ⟨x, hx⟩ : ∃ x, c.gs.getD k default = x := ⟨_, rfl⟩
      rw [hx] at k0 hhit
      have HX' := hid (HX.out x hx)
      clear hx HX k1
      have HHH := hid hhit
      obtain ⟨X, hXe⟩ : ∃ X : ByteArray, (⟨x.base.toArray⟩ : ByteArray) = X := ⟨_, rfl⟩
      have hXd : x.base = X.data.toList := by rw [← hXe]
      rw [hXe] at k0
      by_cases hn : X.data.toList = Q.data.toList
      · obtain rfl : R = (k : Nat) := HHH.out (by rw [hXd]; exact hn)
        obtain rfl : X = Q := str_inj hn
        clear hn hXd hXe hhit
        go_wp2_with (fail)
        go_ret
        exact ⟨rfl, hw0⟩
      · have HN := hid (HX'.out (by rw [hXd]; exact hn))
        have hcmp : (X.toList == Q.toList) = false := by rw [str_eq, decide_eq_false hn]
        clear hn hXd hXe hhit
        go_wp2_with (fail)
        go_round
        case rel => exact ⟨k + 1, by omega, by go_num, HN.out⟩
        case measure => simp [intOf]; omega
    · obtain rfl : k = L := by omega
      obtain rfl : R = -1 := HMISS.out hno.out
      go_wp2_with (fail)
      go_ret
      exact ⟨rfl, hw0⟩
-- END

set_option maxHeartbeats 4000000 in
theorem rnumbers_any (w : World) (ve vg : Value) (c : Cat) (hv : RdC w ve vg c) (hM : c.es.length ≤ 1000000) (S : ByteArray) (hS : S.size ≤ 1000000) : Calls Tryz.prog 37 #[.agg #[ve, vg], .string S] w fun e w' =>
    ∃ u, e = .returned u ∧ w'.ownsRow w.heap.size 3 1 u (numsS c.es S.data.toList).length ((numsS c.es S.data.toList).map en) ∧ Chg [] w w' := by
  obtain ⟨b, hb⟩ : ∃ b, S.data.toList = b := ⟨_, rfl⟩
  obtain ⟨L, hL⟩ : ∃ L, c.es.length = L := ⟨_, rfl⟩
  have HALL : Hid (∀ (u : Value) (W : World), W.ownsRow w.heap.size 3 1 u (numsS (c.es.take L) b).length ((numsS (c.es.take L) b).map en) → W.ownsRow w.heap.size 3 1 u (numsS c.es S.data.toList).length ((numsS c.es S.data.toList).map en)) := fun u W h => by
    rw [← hL, nums_all, ← hb] at h; exact h
  have HN : Hid (∀ i W, Calls Tryz.prog 65 #[.string S, .string ⟨(c.es.getD i default).name.toArray⟩] W fun e w' => e = .returned (.int .i64 (numS b (c.es.getD i default).name : Nat)) ∧ W = w') := hid (fun i W => by
    have h := rnumber_any S ⟨(c.es.getD i default).name.toArray⟩ hS W
    rw [hb] at h; exact h)
  have HST : Hid (∀ k, k < L → numsS (c.es.take (k + 1)) b = if 0 < numS b (c.es.getD k default).name then numsS (c.es.take k) b ++ [numS b (c.es.getD k default).name] else numsS (c.es.take k) b) := fun k hk => nums_take (by omega)
  have HLE : Hid (∀ k, (numsS (c.es.take k) b).length ≤ k) := fun k => by
    unfold numsS gensS; rw [List.length_map]
    exact Nat.le_trans (List.length_filter_le _ _) (by rw [List.length_take]; omega)
  rw [hL] at hM
  obtain ⟨ea, ec, rfl, HC⟩ := (hv.1).opt hL
  have hbx := al_new (w := w) (o := .cells #[.slice ea L ec, vg] 31 (0, 0)) rfl
  have HBX := hid hbx
  clear hv hL hbx
  go_enter Tryz.func37, Tryz.ntmps37
  go_wp2_with (fail)
  have hc0 : Chg [] w (w.alloc (.cells #[.slice ea L ec, vg] 31)) := Chg.alloc _ _ _
  go_loopw [5, 6, 7] (fun v i _ wr => ∃ k : Nat, k ≤ L ∧ i = .int .i64 k ∧ wr.ownsRow w.heap.size 3 1 v (numsS (c.es.take k) b).length ((numsS (c.es.take k) b).map en) ∧ Chg [] w wr ∧ wr.heap[w.heap.size]? = some (.cells #[.slice ea L ec, vg] 31 (0, 0))) (fun _ i _ _ => L - (intOf i).toNat)
  case atStart => exact ⟨0, by omega, rfl, World.ownsRow_nil _ _ _ _, hc0, HBX.out⟩
  case round =>
    clear hc0
    obtain ⟨k, hk, rfl, hown, hc, hbox⟩ := hrel
    obtain ⟨b0, b1⟩ := two_cells hbox
    have HBOX := hid hbox
    clear hbox
    by_cases hlt : k < L
    · obtain ⟨bb, off, rfl, hbb, k0, k1, k2, k3⟩ := HC.out k hlt
      have hlti : (k : Int) < (L : Int) := by omega
      have hlen := HLE.out k
      have hstep := hid (HST.out k hlt)
      replace k0 := hc.cell k0 (by simp)
      have cN := HN.out k
      clear k1 k2 k3
      generalize c.es.getD k default = x at *
      generalize (⟨x.name.toArray⟩ : ByteArray) = X at *
      have HCh := hid hc
      have hBw := hc.size
      by_cases hn : 0 < numS b x.name
      · have hni : (0 : Int) < (numS b x.name : Nat) := by omega
        rw [if_pos hn] at hstep
        generalize numS b x.name = nn at *
        have HCN := hid cN
        have HOwn := hid hown
        clear hown hc cN
        go_wp2_with (first | (go_at_call 65; refine (HCN.out _).mono ?_; rintro e w1 ⟨rfl, rfl⟩) | (at_builtin; refine appendN2 rfl _ _ 83 rfl w.heap.size 3 8 (.int .i64 0) Tryz.underlying83 info_int' rfl (by decide) 1 [_] rfl _ (by simp) HOwn.out rfl rfl (by simp [Value.oneCell']) (by omega) (by omega) ?_; intro v' w' ho' hc'))
        have HO' := hid ho'
        have hch := hid (chg_ownK HCh.out HOwn.out (Nat.le_refl _) hc')
        have hbx' := hid (hc'.heap HBOX.out (fun h => own_neR HOwn.out HBOX.out (by decide) _ h (by simp)))
        clear ho' hc' HCh HOwn HBOX
        go_wp2_with (fail)
        go_roundw
        case rel =>
          refine ⟨k + 1, by omega, by go_num, ?_, hch.out, hbx'.out⟩
          have h := HO'.out
          rw [hstep.out, List.length_append, List.map_append]
          exact h
        case measure => simp [intOf]; omega
      · have hn0 : numS b x.name = 0 := by omega
        rw [if_neg hn] at hstep
        rw [hn0] at cN
        have HCN := hid cN
        have HO := hid hown
        clear hown hc hn hn0 cN
        go_wp2_with (go_at_call 65; refine (HCN.out _).mono ?_; rintro e w1 ⟨rfl, rfl⟩)
        go_roundw
        case rel =>
          refine ⟨k + 1, by omega, by go_num, ?_, HCh.out, HBOX.out⟩
          rw [hstep.out]
          exact HO.out
        case measure => simp [intOf]; omega
    · obtain rfl : L = k := by omega
      go_wp2_with (fail)
      go_ret
      exact ⟨_, rfl, HALL.out _ _ hown, hc⟩

end Go.Proofs.YtldkmclfhjcicaaGreatDoor
