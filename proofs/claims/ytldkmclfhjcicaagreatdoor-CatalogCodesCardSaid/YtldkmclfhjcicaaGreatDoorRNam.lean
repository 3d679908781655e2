import Derived.WalkSpells
import Derived.Outline
import Derived.Laws.IdiomStrings
import Derived.Test.YtldkmclfhjcicaaGreatDoorProg
import Derived.Test.YtldkmclfhjcicaaGreatDoorCatP
import Derived.Test.YtldkmclfhjcicaaGreatDoorCByF
import Derived.Test.YtldkmclfhjcicaaGreatDoorCNam
import Derived.Test.YtldkmclfhjcicaaGreatDoorCMem

namespace Go.Proofs.YtldkmclfhjcicaaGreatDoor
open Go.RowKit
set_option linter.unusedVariables false
set_option linter.unusedSimpArgs false

theorem idx_str (S : ByteArray) (k : Nat) (hk : k < S.size) (W : World) : (Instr.index 9 (.string S) (.int .i64 (k : Int))).run Tryz.prog W = .ok (.int .u8 (bN S.data.toList k : Nat)) W := by
  rw [run_index_string W _ _ _ _ Tryz.underlying9, dif_pos ⟨by omega, by omega⟩]
  rw [bN_get S.data.toList k (by rw [bs_len]; exact hk)]
  rfl
def partN (n : Nat) : Bool := (decide (65 ≤ n) && decide (n ≤ 90)) || (decide (48 ≤ n) && decide (n ≤ 57)) || n == 64 || n == 35 || n == 36
theorem partC_N (c : UInt8) : partC c = partN c.toNat := by
  unfold partC capC partN
  have k : ∀ m : UInt8, (c == m) = (c.toNat == m.toNat) := fun m => by rw [Bool.eq_iff_iff, beq_iff_eq, beq_iff_eq, UInt8.toNat_inj]
  rw [k 64, k 35, k 36]; rfl
theorem digC_N (c : UInt8) : digC c = (decide (48 ≤ c.toNat) && decide (c.toNat ≤ 57)) := rfl
theorem all_bN (p : UInt8 → Bool) (q : Nat → Bool) (hp : ∀ c, p c = q c.toNat) (l : Bs) : l.all p = true ↔ ∀ k, k < l.length → q (bN l k) = true := by
  rw [List.all_eq_true]
  constructor
  · intro h k hk; rw [bN_get l k hk, ← hp]; exact h _ (List.getElem_mem hk)
  · intro h c hc
    obtain ⟨k, hk, rfl⟩ := List.getElem_of_mem hc
    rw [hp, ← bN_get l k hk]; exact h k hk
theorem head_bN (l : Bs) (h : 0 < l.length) : l.headD 0 = UInt8.ofNat (bN l 0) := by
  cases l with
  | nil => simp at h
  | cons c t => unfold bN; simp

set_option maxHeartbeats 4000000 in
theorem part_any (S : ByteArray) (w : World) (hS : S.size ≤ 1000000) : Calls Tryz.prog 85 #[.string S] w fun e w' => e = .returned (.bool (partOk S.data.toList)) ∧ w = w' := by
  obtain ⟨l, hl⟩ : ∃ l, S.data.toList = l := ⟨_, rfl⟩
  obtain ⟨L, hL⟩ : ∃ L, S.size = L := ⟨_, rfl⟩
  have hll : l.length = L := by rw [← hl, bs_len, hL]
  obtain ⟨R, hR⟩ : ∃ R, partOk l = R := ⟨_, rfl⟩
  rw [hl, hR]
  have hix : ∀ k : Nat, k < L → ∀ W, (Instr.index 9 (.string S) (.int .i64 (k : Int))).run Tryz.prog W = .ok (.int .u8 (bN l k : Nat)) W := fun k hk W => by rw [← hl]; exact idx_str S k (by omega) W
  have HP : Hid (partOk l = (decide (1 ≤ L) && decide (L ≤ 8) && !(digC (l.headD 0)) && l.all partC)) := hid (by rw [← hll]; rfl)
  have HALL := hid (all_bN partC partN partC_N l)
  rw [hll] at HALL
  have HX := hid hix
  rw [hL] at hS
  by_cases h1 : L < 1
  · obtain rfl : R = false := by rw [← hR, HP.out, decide_eq_false (by omega)]; rfl
    have h1i : (L : Int) < 1 := by omega
    clear hix hR hl hll
    go_enter Tryz.func85, Tryz.ntmps85
    rw [← hL] at h1i
    go_wp2_with (fail)
    go_ret
    exact ⟨rfl, rfl⟩
  · by_cases h8 : 8 < L
    · obtain rfl : R = false := by rw [← hR, HP.out, decide_eq_false (by omega : ¬ L ≤ 8)]; simp
      have h8i : (8 : Int) < (S.size : Int) := by omega
      have h1i : ¬ (S.size : Int) < 1 := by omega
      clear hix hR hl hll
      go_enter Tryz.func85, Tryz.ntmps85
      go_wp2_with (fail)
      go_ret
      exact ⟨rfl, rfl⟩
    · have h8i : ¬ (8 : Int) < (S.size : Int) := by omega
      have h1i : ¬ (S.size : Int) < 1 := by omega
      have i0 := hix 0 (by omega)
      rw [Int.natCast_zero] at i0
      have hd : digC (l.headD 0) = (decide (48 ≤ bN l 0) && decide (bN l 0 ≤ 57)) := by
        rw [head_bN l (by omega), digC_N, UInt8.toNat_ofNat', Nat.mod_eq_of_lt (bN_lt l 0)]
      have HP2 : Hid (partOk l = (!(decide (48 ≤ bN l 0) && decide (bN l 0 ≤ 57)) && l.all partC)) := hid (by rw [HP.out, decide_eq_true (by omega : 1 ≤ L), decide_eq_true (by omega : L ≤ 8), hd]; rfl)
      obtain ⟨c0, hc0⟩ : ∃ c, bN l 0 = c := ⟨_, rfl⟩
      rw [hc0] at HP2 i0
      clear hd hc0
      by_cases hdg : 48 ≤ c0 ∧ c0 ≤ 57
      · obtain rfl : R = false := by rw [← hR, HP2.out, decide_eq_true hdg.1, decide_eq_true hdg.2]; rfl
        have d1 : (48 : Int) ≤ (c0 : Int) := by omega
        have d2 : (c0 : Int) ≤ 57 := by omega
        clear hix hR hl hll
        go_enter Tryz.func85, Tryz.ntmps85
        go_wp2_with (fail)
        go_ret
        exact ⟨rfl, rfl⟩
      · have HRA : Hid (R = l.all partC) := hid (by rw [← hR, HP2.out, show (decide (48 ≤ c0) && decide (c0 ≤ 57)) = false from by simp; omega]; rfl)
        have HBAD : Hid (∀ k, k < L → partN (bN l k) = false → R = false) := fun k hk hb => by
          cases R with
          | false => rfl
          | true => have := HALL.out.1 HRA.out.symm k hk; rw [hb] at this; cases this
        have HGOOD : Hid ((∀ k, k < L → partN (bN l k) = true) → R = true) := fun h => by rw [HRA.out]; exact HALL.out.2 h
        clear hix hR hl hll HP HP2 HALL HRA
        have hcases : ((c0 : Int) < 48) ∨ ((48 : Int) ≤ (c0 : Int) ∧ (57 : Int) < (c0 : Int)) := by omega
        rcases hcases with d1 | ⟨d1, d2⟩
        all_goals
          go_enter Tryz.func85, Tryz.ntmps85
          go_wp2_with (fail)
          go_loop [3, 4] (fun i _ => ∃ k : Nat, k ≤ L ∧ i = .int .i64 k ∧ Hid (∀ j, j < k → partN (bN l j) = true)) (fun i _ => L - (intOf i).toNat)
          case atStart => exact ⟨0, by omega, rfl, fun j hj => absurd hj (Nat.not_lt_zero _)⟩
          case round =>
            obtain ⟨k, hk, rfl, hok⟩ := hrel
            by_cases hlt : k < L
            · have hlti : (k : Int) < (S.size : Int) := by omega
              have i1 := HX.out k hlt
              have hbad := HBAD.out k hlt
              have hnext : Hid (partN (bN l k) = true → ∀ j, j < k + 1 → partN (bN l j) = true) := fun h j hj => by
                rcases Nat.lt_or_ge j k with g | g
                · exact hok.out j g
                · obtain rfl : j = k := by omega
                  exact h
              obtain ⟨c, hc⟩ : ∃ c, bN l k = c := ⟨_, rfl⟩
              rw [hc] at i1 hbad hnext
              have HBD := hid hbad
              clear hc hbad hok i0 d1
              cases hp : partN c with
              | true =>
                have HN := hid (hnext.out hp)
                unfold partN at hp
                simp only [Bool.or_eq_true, Bool.and_eq_true, decide_eq_true_eq, beq_iff_eq] at hp
                clear hnext HBD
                rcases hp with (((hp | hp) | hp) | hp) | hp
                · have c1 : (65 : Int) ≤ (c : Int) := by omega
                  have c2 : (c : Int) ≤ 90 := by omega
                  clear hp
                  go_wp2_with (fail)
                  go_round
                  case rel => exact ⟨k + 1, by omega, by go_num, HN.out⟩
                  case measure => simp [intOf]; omega
                · have c1 : (48 : Int) ≤ (c : Int) := by omega
                  have c2 : (c : Int) ≤ 57 := by omega
                  have c3 : ¬ (65 : Int) ≤ (c : Int) := by omega
                  clear hp
                  go_wp2_with (fail)
                  go_round
                  case rel => exact ⟨k + 1, by omega, by go_num, HN.out⟩
                  case measure => simp [intOf]; omega
                all_goals
                  subst hp
                  go_wp2_with (fail)
                  go_round
                  case rel => exact ⟨k + 1, by omega, by go_num, HN.out⟩
                  case measure => simp [intOf]; omega
              | false =>
                obtain rfl : R = false := HBD.out hp
                unfold partN at hp
                simp only [Bool.or_eq_false_iff, Bool.and_eq_false_imp, decide_eq_true_eq, decide_eq_false_iff_not, beq_eq_false_iff_ne] at hp
                have c3 : ((c : Int) == 64) = false := beq_eq_false_iff_ne.2 (by omega)
                have c4 : ((c : Int) == 35) = false := beq_eq_false_iff_ne.2 (by omega)
                have c5 : ((c : Int) == 36) = false := beq_eq_false_iff_ne.2 (by omega)
                have hc : ((c : Int) < 48) ∨ ((57 : Int) < (c : Int) ∧ (48 : Int) ≤ (c : Int) ∧ (c : Int) < 65) ∨ ((90 : Int) < (c : Int) ∧ (65 : Int) ≤ (c : Int) ∧ (48 : Int) ≤ (c : Int) ∧ (57 : Int) < (c : Int)) := by omega
                clear hp hnext HBD
                rcases hc with c1 | ⟨c1, c2, c6⟩ | ⟨c1, c2, c6, c7⟩
                · have c2 : ¬ (65 : Int) ≤ (c : Int) := by omega
                  go_wp2_with (fail)
                  go_ret
                  exact ⟨rfl, rfl⟩
                · have e1 : decide ((c : Int) ≤ 57) = false := decide_eq_false (by omega)
                  go_wp2_with (fail)
                  go_ret
                  exact ⟨rfl, rfl⟩
                · have e1 : decide ((c : Int) ≤ 57) = false := decide_eq_false (by omega)
                  have e2 : decide ((c : Int) ≤ 90) = false := decide_eq_false (by omega)
                  go_wp2_with (fail)
                  go_ret
                  exact ⟨rfl, rfl⟩
            · have hlti : ¬ (k : Int) < (S.size : Int) := by omega
              obtain rfl : L = k := by omega
              obtain rfl : R = true := HGOOD.out hok.out
              clear hok
              go_wp2_with (fail)
              go_ret
              exact ⟨rfl, rfl⟩

end Go.Proofs.YtldkmclfhjcicaaGreatDoor

namespace Go.Proofs.YtldkmclfhjcicaaGreatDoor
open Go.RowKit
set_option linter.unusedVariables false
set_option linter.unusedSimpArgs false

theorem bN_dot (l : Bs) (k : Nat) (hk : k < l.length) : bN l k = 46 ↔ l[k]? = some 46 := by
  rw [bN_get l k hk, List.getElem?_eq_getElem hk]
  constructor
  · intro h; congr 1; exact UInt8.toNat_inj.1 h
  · intro h; rw [Option.some.inj h]; rfl
theorem ext_data (S : ByteArray) (a b : Nat) : (S.extract a b).data.toList = (S.data.toList.drop a).take (b - a) := by
  rw [ByteArray.data_extract, Array.toList_extract, List.extract_eq_take_drop]

set_option maxHeartbeats 4000000 in
theorem rName_any (S : ByteArray) (w : World) : Calls Tryz.prog 67 #[.string S] w fun e w' => e = .returned (.bool (nameOk S.data.toList)) ∧ w = w' := by
  obtain ⟨l, hl⟩ : ∃ l, S.data.toList = l := ⟨_, rfl⟩
  obtain ⟨L, hL⟩ : ∃ L, S.size = L := ⟨_, rfl⟩
  have hll : l.length = L := by rw [← hl, bs_len, hL]
  obtain ⟨R, hR⟩ : ∃ R, nameOk l = R := ⟨_, rfl⟩
  rw [hl, hR]
  have HX : Hid (∀ k : Nat, k < L → ∀ W, (Instr.index 9 (.string S) (.int .i64 (k : Int))).run Tryz.prog W = .ok (.int .u8 (bN l k : Nat)) W) := fun k hk W => by rw [← hl]; exact idx_str S k (by omega) W
  by_cases h44 : 44 < L
  · obtain rfl : R = false := by rw [← hR]; unfold nameOk; rw [decide_eq_false (by omega)]; rfl
    have h1i : (44 : Int) < (S.size : Int) := by omega
    clear hR hl hll
    go_enter Tryz.func67, Tryz.ntmps67
    go_wp2_with (fail)
    go_ret
    exact ⟨rfl, rfl⟩
  · have h1i : ¬ (44 : Int) < (S.size : Int) := by omega
    have HR : Hid (R = (splitAtC 46 (l.drop 0)).all partOk) := hid (by rw [← hR]; unfold nameOk; rw [decide_eq_true (by omega), Bool.true_and]; rfl)
    have HPT : Hid (∀ f k : Nat, f ≤ k → k ≤ L → ∀ W, Calls Tryz.prog 85 #[.string (S.extract f k)] W fun e w' => e = .returned (.bool (partOk ((l.drop f).take (k - f)))) ∧ W = w') := fun f k hf hk W => by
      have h := part_any (S.extract f k) W (by rw [ByteArray.size_extract]; omega)
      rw [ext_data, hl] at h; exact h
    have HDOT : Hid (∀ k, k < L → (bN l k = 46 ↔ l[k]? = some 46)) := fun k hk => bN_dot l k (by omega)
    have HST : Hid (∀ f i, f ≤ i → (∀ j, f ≤ j → j < i → l[j]? ≠ some 46) → l[i]? = some 46 → splitAtC 46 (l.drop f) = (l.drop f).take (i - f) :: splitAtC 46 (l.drop (i + 1))) := fun f i => split_step l f i
    have HSL : Hid (∀ f, (∀ j, f ≤ j → j < L → l[j]? ≠ some 46) → splitAtC 46 (l.drop f) = [(l.drop f).take (L - f)]) := fun f h => by
      rw [split_last l f (by rw [hll]; exact h), List.take_of_length_le (by rw [List.length_drop]; omega)]
    clear hR hl hll
    go_enter Tryz.func67, Tryz.ntmps67
    go_wp2_with (fail)
    go_loop [3, 4] (fun s3 s4 => ∃ f k : Nat, s3 = .int .i64 f ∧ s4 = .int .i64 k ∧ k ≤ L + 1 ∧ f ≤ k ∧ (k ≤ L → Hid ((∀ j, f ≤ j → j < k → l[j]? ≠ some 46) ∧ R = (splitAtC 46 (l.drop f)).all partOk)) ∧ (L < k → R = true)) (fun _ i => L + 1 - (intOf i).toNat)
    case atStart => exact ⟨0, 0, rfl, rfl, by omega, by omega, fun _ => ⟨fun j h1 h2 => absurd h2 (Nat.not_lt_zero _), HR.out⟩, fun h => by omega⟩
    case round =>
      obtain ⟨f, k, rfl, rfl, hk, hf, hI, hE⟩ := hrel
      by_cases hlt : k < L
      · obtain ⟨hno, hRR⟩ := (hI (by omega)).out
        have hlti : (k : Int) < (S.size : Int) := by omega
        have hlei : (k : Int) ≤ (S.size : Int) := by omega
        have i1 := HX.out k hlt
        have hdot := HDOT.out k hlt
        have hpt := HPT.out f k hf (by omega)
        have hst := HST.out f k hf hno
        obtain ⟨c, hc⟩ : ∃ c, bN l k = c := ⟨_, rfl⟩
        rw [hc] at i1 hdot
        by_cases hd : c = 46
        · have hsp := hst (hdot.1 hd)
          have hR2 : R = (partOk ((l.drop f).take (k - f)) && (splitAtC 46 (l.drop (k + 1))).all partOk) := by rw [hRR, hsp, List.all_cons]
          obtain ⟨b, hb⟩ : ∃ b, partOk ((l.drop f).take (k - f)) = b := ⟨_, rfl⟩
          rw [hb] at hR2 hpt
          have HR2 := hid hR2
          have HPP := hid hpt
          subst hd
          clear hc hdot hst hsp hRR hno hI hE hpt hR2 hb
          cases b with
          | true =>
            rw [Bool.true_and] at HR2
            go_wp2_with (go_at_call 85; refine (HPP.out _).mono ?_; rintro e w' ⟨rfl, rfl⟩)
            go_round
            case rel => exact ⟨k + 1, k + 1, by go_num, by go_num, by omega, by omega, fun _ => ⟨fun j h1 h2 => by omega, HR2.out⟩, fun h => by omega⟩
            case measure => simp [intOf]; omega
          | false =>
            obtain rfl : R = false := HR2.out
            go_wp2_with (go_at_call 85; refine (HPP.out _).mono ?_; rintro e w' ⟨rfl, rfl⟩)
            go_ret
            exact ⟨rfl, rfl⟩
        · have hne : ((c : Int) == 46) = false := beq_eq_false_iff_ne.2 (by omega)
          have hnx : Hid (∀ j, f ≤ j → j < k + 1 → l[j]? ≠ some 46) := fun j h1 h2 => by
            rcases Nat.lt_or_ge j k with g | g
            · exact hno j h1 g
            · obtain rfl : j = k := by omega
              exact fun q => hd (hdot.2 q)
          have HRR := hid hRR
          clear hc hdot hst hRR hno hI hE hpt hd
          have hne2 : ((c : Int) != 46) = true := by simpa using hne
          go_wp2_with (fail)
          go_round
          case rel => exact ⟨f, k + 1, rfl, by go_num, by omega, by omega, fun _ => ⟨hnx.out, HRR.out⟩, fun h => by omega⟩
          case measure => simp [intOf]; omega
      · by_cases hkL : k = L
        · obtain ⟨hno, hRR⟩ := (hI (by omega)).out
          have hlti : ¬ (k : Int) < (S.size : Int) := by omega
          have hlei : (k : Int) ≤ (S.size : Int) := by omega
          have hpt := HPT.out f k hf (by omega)
          have hsl := HSL.out f (by rw [← hkL]; exact hno)
          have hR2 : R = partOk ((l.drop f).take (k - f)) := by rw [hRR, hsl, hkL]; simp
          rw [← hR2] at hpt
          have HPP := hid hpt
          have hLk : L ≤ k := by omega
          clear hsl hRR hno hI hE hpt hR2 hkL
          cases R with
          | true =>
            go_wp2_with (go_at_call 85; refine (HPP.out _).mono ?_; rintro e w' ⟨rfl, rfl⟩)
            go_round
            case rel => exact ⟨k + 1, k + 1, by go_num, by go_num, by omega, by omega, fun h => by omega, fun _ => by trivial⟩
            case measure => simp [intOf]; omega
          | false =>
            go_wp2_with (go_at_call 85; refine (HPP.out _).mono ?_; rintro e w' ⟨rfl, rfl⟩)
            go_ret
            exact ⟨rfl, rfl⟩
        · obtain rfl : R = true := hE (by omega)
          have hlei : ¬ (k : Int) ≤ (S.size : Int) := by omega
          clear hI hE
          go_wp2_with (fail)
          go_ret
          exact ⟨rfl, rfl⟩

set_option maxHeartbeats 4000000 in
theorem rGen_good (S : ByteArray) (n : Nat) (w : World) (h1 : 1 ≤ n) (h2 : n ≤ 9999) (h3 : S.size ≤ 35) (hn : nameOk S.data.toList = true) :
    Calls Tryz.prog 62 #[.string S, .int .i64 (n : Int)] w fun e w' => e = .returned (.tuple #[bsV (genName S.data.toList n), .bool true]) ∧ Chg [] w w' := by
  have c := rName_any S w
  rw [hn] at c
  clear hn
  obtain ⟨D, hD⟩ : ∃ D : ByteArray, (⟨(dig4 n).toArray⟩ : ByteArray) = D := ⟨_, rfl⟩
  have hDs : D.size = 4 := by rw [← hD]; rfl
  have hcv : ∀ W : World, (convert 27 9 (.slice (some ⟨W.heap.size, 0, none⟩) 4 4)).run Tryz.prog (W.alloc (.cells #[.int .u8 (48 + (n : Int) / 1000), .int .u8 (48 + (n : Int) / 100 % 10), .int .u8 (48 + (n : Int) / 10 % 10), .int .u8 (48 + (n : Int) % 10)] 5)) =
      .ok (.string D) (W.alloc (.cells #[.int .u8 (48 + (n : Int) / 1000), .int .u8 (48 + (n : Int) / 100 % 10), .int .u8 (48 + (n : Int) / 10 % 10), .int .u8 (48 + (n : Int) % 10)] 5)) := fun W => by
    have e : (#[.int .u8 (48 + (n : Int) / 1000), .int .u8 (48 + (n : Int) / 100 % 10), .int .u8 (48 + (n : Int) / 10 % 10), .int .u8 (48 + (n : Int) % 10)] : Array Value) = ((dig4 n).map eb).toArray := by
      have key : ∀ (k : Nat) (i : Int), k < 10 → i = (k : Int) → Value.int .u8 (48 + i) = eb (UInt8.ofNat (48 + k)) := fun k i hk hi => by
        unfold eb; rw [UInt8.toNat_ofNat', hi]; congr 1; omega
      unfold dig4
      rw [key (n / 1000) _ (by omega) (by omega), key (n / 100 % 10) _ (by omega) (by omega), key (n / 10 % 10) _ (by omega) (by omega), key (n % 10) _ (by omega) (by omega)]
      rfl
    have hr : Reads (W.alloc (.cells #[.int .u8 (48 + (n : Int) / 1000), .int .u8 (48 + (n : Int) / 100 % 10), .int .u8 (48 + (n : Int) / 10 % 10), .int .u8 (48 + (n : Int) % 10)] 5)) (.slice (some ⟨W.heap.size, 0, none⟩) 4 4) (dig4 n) := by
      rw [e]
      exact Reads.of_own (e := 5) (base := W.heap.size) (own_litK 1 ((dig4 n).map eb) (by simp [dig4]) (by omega))
    rw [← hD]
    exact hr.str 27 9 5 Tryz.underlying27 Tryz.underlying5 Tryz.underlying9
  have HD := hid hD
  clear hD
  go_enter Tryz.func62, Tryz.ntmps62
  go_wp2_with (go_at_call 67; refine c.mono ?_; rintro e w' ⟨rfl, rfl⟩)
  go_ret2
  refine ⟨?_, Chg.alloc _ _ _⟩
  have e : bsV (genName S.data.toList n) = .string (S ++ ⟨#[46, 71]⟩ ++ D ++ ⟨#[86, 48, 48]⟩) := by
    unfold bsV genName
    congr 1
    apply str_inj
    rw [← HD.out]
    simp [ByteArray.data_append]
  rw [e]
  rfl
set_option maxHeartbeats 2000000 in
theorem rGen_bad (S : ByteArray) (n : Int) (w : World) (h : genOk S.data.toList n = false) : Calls Tryz.prog 62 #[.string S, .int .i64 n] w fun e w' => e = .returned (.tuple #[.string ⟨#[]⟩, .bool false]) ∧ Chg [] w w' := by
  have c := rName_any S w
  unfold genOk at h
  cases hn : nameOk S.data.toList with
  | false =>
    rw [hn] at c
    clear h hn
    go_enter Tryz.func62, Tryz.ntmps62
    go_wp2_with (go_at_call 67; refine c.mono ?_; rintro e w' ⟨rfl, rfl⟩)
    go_ret2
    exact ⟨rfl, Chg.refl _ _⟩
  | true =>
    rw [hn] at c
    rw [hn, bs_len] at h
    have hc : ((35 : Int) < (S.size : Int)) ∨ (¬ ((35 : Int) < (S.size : Int)) ∧ n < 1) ∨ (¬ ((35 : Int) < (S.size : Int)) ∧ ¬ n < 1 ∧ (9999 : Int) < n) := by
      by_cases a : S.size ≤ 35
      · by_cases b : 1 ≤ n
        · by_cases d : n ≤ 9999
          · rw [decide_eq_true a, decide_eq_true b, decide_eq_true d] at h; cases h
          · omega
        · omega
      · omega
    clear h hn
    rcases hc with h1 | ⟨h1, h2⟩ | ⟨h1, h2, h3⟩
    all_goals
      go_enter Tryz.func62, Tryz.ntmps62
      go_wp2_with (go_at_call 67; refine c.mono ?_; rintro e w' ⟨rfl, rfl⟩)
      go_ret2
      exact ⟨rfl, Chg.refl _ _⟩
theorem rGen_any (S : ByteArray) (n : Int) (w : World) : Calls Tryz.prog 62 #[.string S, .int .i64 n] w fun e w' => e = .returned (.tuple #[bsV (genS S.data.toList n).1, .bool (genS S.data.toList n).2]) ∧ Chg [] w w' := by
  unfold genS
  by_cases h : genOk S.data.toList n = true
  · rw [if_pos h]
    unfold genOk at h
    simp only [Bool.and_eq_true, decide_eq_true_eq] at h
    obtain ⟨⟨⟨h1, h2⟩, h3⟩, h4⟩ := h
    obtain ⟨k, rfl⟩ := Int.eq_ofNat_of_zero_le (show 0 ≤ n by omega)
    exact rGen_good S k w (by omega) (by omega) (by rw [bs_len] at h2; exact h2) h1
  · rw [if_neg h]
    exact rGen_bad S n w (by simpa using h)

end Go.Proofs.YtldkmclfhjcicaaGreatDoor

namespace Go.Proofs.YtldkmclfhjcicaaGreatDoor
open Go.RowKit
set_option linter.unusedVariables false
set_option linter.unusedSimpArgs false

def wordStr (i : Nat) : ByteArray := ⟨(wordBases.getD i []).toArray⟩
set_option maxHeartbeats 8000000 in
theorem Word_any (n : Nat) (hn : n < 256) (w : World) : Calls Tryz.prog 26 #[.int .u8 (n : Int)] w fun e w' => e = .returned (bsV (wordS n)) ∧ Chg [] w w' := by
  obtain ⟨i, hi⟩ : ∃ i, n / 3 % 6 = i := ⟨_, rfl⟩
  have hi6 : i < 6 := by omega
  obtain ⟨B, hB⟩ : ∃ B, wordStr i = B := ⟨_, rfl⟩
  have hb := wordB_facts _ (wordB_mem n)
  have hbi : wordB n = B.data.toList := by rw [← hB]; unfold wordB wordStr; rw [hi]
  rw [hbi] at hb
  obtain ⟨-, -, hb3, hb4⟩ := hb
  have hcell : ((w.alloc (.cells #[.string ⟨#[65]⟩, .string ⟨#[66, 46, 67]⟩, .string ⟨#[80, 65, 89, 46, 76, 73, 83, 84]⟩, .string ⟨#[83, 89, 83, 49, 46, 80, 82, 79, 67, 76, 73, 66]⟩, .string ⟨#[65, 46, 71, 48, 48, 48, 49, 86, 48, 48]⟩, .string ⟨#[36, 88, 46, 64, 89, 46, 35, 90]⟩] 108)).cell? ⟨w.heap.size, i, none⟩) = some (.string B) := by
    rw [cell_of_row _ _ _ _ _ _ (al_new rfl), ← hB]
    have : ∀ i < 6, (#[.string ⟨#[65]⟩, .string ⟨#[66, 46, 67]⟩, .string ⟨#[80, 65, 89, 46, 76, 73, 83, 84]⟩, .string ⟨#[83, 89, 83, 49, 46, 80, 82, 79, 67, 76, 73, 66]⟩, .string ⟨#[65, 46, 71, 48, 48, 48, 49, 86, 48, 48]⟩, .string ⟨#[36, 88, 46, 64, 89, 46, 35, 90]⟩] : Array Value)[i]? = some (.string (wordStr i)) := by
      intro i hi
      rcases (by omega : i = 0 ∨ i = 1 ∨ i = 2 ∨ i = 3 ∨ i = 4 ∨ i = 5) with rfl | rfl | rfl | rfl | rfl | rfl <;> rfl
    exact this i hi6
  have e1 : (n : Int) / 3 % 6 = (i : Int) := by omega
  have hii : (i : Int) < 6 := by omega
  have hn1 : (n : Int) < 256 := by omega
  have hg := rGen_good B (1 + n / 18) (w.alloc (.cells #[.string ⟨#[65]⟩, .string ⟨#[66, 46, 67]⟩, .string ⟨#[80, 65, 89, 46, 76, 73, 83, 84]⟩, .string ⟨#[83, 89, 83, 49, 46, 80, 82, 79, 67, 76, 73, 66]⟩, .string ⟨#[65, 46, 71, 48, 48, 48, 49, 86, 48, 48]⟩, .string ⟨#[36, 88, 46, 64, 89, 46, 35, 90]⟩] 108)) (by omega) (by omega) (by rw [bs_len] at hb4; exact hb4) hb3
  rw [show ((1 + n / 18 : Nat) : Int) = 1 + (n : Int) / 18 from by omega] at hg
  have HGN := hid hg
  by_cases h3 : n % 3 = 0
  · have hw : bsV (wordS n) = .string B := by unfold wordS bsV; rw [if_pos h3, hbi, bs_of]
    have t3 : ((n : Int) % 3 == 0) = true := by simp; omega
    have t3' : (n : Int) % 3 = 0 := by omega
    rw [hw]
    clear hi hB hb3 hb4 hbi hg h3 hw
    go_enter Tryz.func26, Tryz.ntmps26
    go_wp2_with (fail)
    go_ret
    exact ⟨rfl, Chg.alloc _ _ _⟩
  · have hw : bsV (wordS n) = bsV (genName B.data.toList (1 + n / 18)) := by unfold wordS; rw [if_neg h3, hbi]
    have t3 : ((n : Int) % 3 == 0) = false := by simp; omega
    rw [hw]
    have HH := hid h3
    clear hi hB hb3 hb4 hbi hg h3 hw
    go_enter Tryz.func26, Tryz.ntmps26
    go_wp2_with (go_at_call 62; refine HGN.out.mono ?_; rintro e w1 ⟨rfl, hc⟩)
    go_ret
    exact ⟨rfl, (Chg.alloc _ _ _).trans hc⟩

end Go.Proofs.YtldkmclfhjcicaaGreatDoor
