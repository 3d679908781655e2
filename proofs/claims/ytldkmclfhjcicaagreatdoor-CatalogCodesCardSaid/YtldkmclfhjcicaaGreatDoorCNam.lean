import Derived.Laws.Runes
import Derived.Outline
import Derived.WalkMore
import Derived.Lib.OthersKept
import Derived.Deep.LoopGhost
import Derived.Deep.QuietTactic
import Derived.BigQuiet
import Derived.RangeFuncNested
import Derived.RangeFuncBound
import Derived.RangeFuncCalls
import Derived.RangeFuncLeaves
import Derived.Shelf.Abstract
import Derived.Shelf.RegionOpen
import Derived.WalkKit
import Derived.OwnWalkIn
import Derived.TacticsInMore
import Derived.LoopNIn
import Derived.LoopIn
import Derived.WalkSpells
import Derived.WalkLawsBesides
import Derived.Test.YtldkmclfhjcicaaGreatDoorProg
import Derived.Test.YtldkmclfhjcicaaGreatDoorShelf
import Derived.Test.YtldkmclfhjcicaaGreatDoorCMem
import Derived.Test.YtldkmclfhjcicaaGreatDoorCatP

/- strings.IndexRune at "@#$", every rune. -/
namespace Go.Proofs.YtldkmclfhjcicaaGreatDoor
open Go.RowKit
set_option linter.unusedVariables false
set_option linter.unusedSimpArgs false

def sgS : ByteArray := ⟨#[64, 35, 36]⟩
def sgB (x : Nat) : Bool := x == 64 || x == 35 || x == 36

theorem byteIdx_none : ∀ (l : List UInt8) (c : UInt8), (∀ b ∈ l, b ≠ c) → Lib.indexByte l c = -1
  | [], _, _ => rfl
  | b :: l, c, h => by
    unfold Lib.indexByte
    rw [if_neg (by simpa using h b List.mem_cons_self), byteIdx_none l c (fun x hx => h x (List.mem_cons_of_mem _ hx))]
    rfl

theorem rune_low (x : Nat) (h : x < 128) (w : World) : Calls Tryz.prog 75 #[.string sgS, .int .i32 (x : Int)] w fun e w' => ∃ k : Int, e = .returned (.int .i64 k) ∧ decide (0 ≤ k) = sgB x ∧ w = w' := by
  refine (Tryz.strings_IndexRune_ascii sgS x w (by omega) (by omega)).mono ?_
  rintro e w' ⟨rfl, rfl⟩
  refine ⟨_, rfl, ?_, rfl⟩
  have : ∀ x : Nat, x < 128 → decide (0 ≤ Lib.indexByte sgS.data.toList ((x : Int).toNat.toUInt8)) = sgB x := by decide +kernel
  exact this x h

set_option maxRecDepth 100000 in
set_option maxHeartbeats 1000000 in
theorem rune_bad (x : Nat) (h1 : 55296 ≤ x) (h2 : x ≤ 57343) (w : World) : Calls Tryz.prog 75 #[.string sgS, .int .i32 (x : Int)] w fun e w' => e = .returned (.int .i64 (-1)) ∧ w = w' := by
  have hv : ∀ W, Calls Tryz.prog 90 #[.int .i32 (x : Int)] W fun e w' => e = .returned (.bool false) ∧ W = w' := fun W => by
    refine (Tryz.utf8_ValidRune x W).mono ?_
    rintro e w' ⟨rfl, rfl⟩
    refine ⟨?_, rfl⟩
    unfold Lib.validRune
    rw [decide_eq_false (by omega)]
  have h3 : ((x : Int) == 65533) = false := by rw [beq_eq_false_iff_ne]; omega
  go_enter Tryz.func75, Tryz.ntmps75
  go_wp2_with (go_at_call 90; refine (hv _).mono ?_; rintro e w' ⟨rfl, rfl⟩)
  go_ret
  exact ⟨rfl, rfl⟩

set_option maxRecDepth 100000 in
set_option maxHeartbeats 1000000 in
theorem rune_err (w : World) : Calls Tryz.prog 75 #[.string sgS, .int .i32 65533] w fun e w' => e = .returned (.int .i64 (-1)) ∧ Below w.heap.size w w' := by
  have hsz : sgS.size = 3 := rfl
  have HS := hid hsz
  clear hsz
  go_enter Tryz.func75, Tryz.ntmps75
  go_wp2_with (fail)
  go_loopg [] 3 (fun gk wx => ∃ pos : Nat, wx.heap[w.heap.size]? = some (.stringIter sgS pos) ∧ Below w.heap.size w wx ∧ 3 ≤ pos + gk)
  case atStart => exact ⟨0, World.iter_heap w sgS 0, (Below.refl _ w).alloc (Nat.le_refl _) _, by omega⟩
  case round =>
    obtain ⟨pos, hit, hbw, hfu⟩ := hrel
    by_cases hps : pos < 3
    · obtain ⟨g', rfl⟩ : ∃ g', gk = g' + 1 := ⟨gk - 1, by omega⟩
      have hnx : ∀ ty, (Instr.next (.pointer (some ⟨w.heap.size, 0, none⟩)) true ty).run Tryz.prog wr = _ := fun ty => Lib.run_next_any_at wr w.heap.size sgS pos ty hit (by rw [HS.out]; exact hps)
      have hd : ∀ p : Nat, p < 3 → (Utf8.decode sgS p).2 = 1 ∧ (Utf8.decode sgS p).1 < 128 := by decide +kernel
      obtain ⟨hd2, hd1⟩ := hd pos hps
      generalize (Utf8.decode sgS pos).1 = R at *
      rw [hd2] at hnx
      have hit2 := Lib.iterAt_heap wr w.heap.size sgS pos (pos + 1) hit
      have hbw2 := Lib.below_iterAt hbw (k := w.heap.size) (Nat.le_refl _) sgS (pos + 1)
      have hR : ((R : Int) == 65533) = false := by rw [beq_eq_false_iff_ne]; omega
      clear hd hd1 hd2
      generalize wr.iterAt w.heap.size sgS (pos + 1) = W at *
      go_wp2_with (fail)
      go_roundg g'
      case measure => omega
      case rel => exact ⟨pos + 1, hit2, hbw2, by omega⟩
    · have hnx : ∀ ty, (Instr.next (.pointer (some ⟨w.heap.size, 0, none⟩)) true ty).run Tryz.prog wr = _ := fun ty => Lib.run_next_end_at wr w.heap.size sgS pos ty hit (by rw [HS.out]; exact hps)
      go_wp2_with (fail)
      go_ret
      exact ⟨rfl, hbw⟩

theorem quiet_left' {P : Program} {f : FuncId} {args : Array Value} {w : World} {n : Nat} {v : Value}
    (h : Calls P f args (w.drewN n) fun e w' => e = .returned v ∧ w.drewN n = w') : Calls P f args (w.drewN n) fun e w' => e = .returned v ∧ ∃ m, w' = w.drewN m :=
  h.mono fun _ _ ⟨he, hm⟩ => ⟨he, n, hm.symm⟩

theorem quiet_add_left' {P : Program} {f : FuncId} {args : Array Value} {w : World} {a n : Nat} {v : Value}
    (h : Calls P f args (w.drewN (a + n)) fun e w' => e = .returned v ∧ w.drewN (a + n) = w') : Calls P f args (w.drewN (a + n)) fun e w'' => e = .returned v ∧ ∃ m, w'' = w.drewN (a + m) :=
  h.mono fun _ _ ⟨he, hm⟩ => ⟨he, n, hm.symm⟩

theorem below_drewN' (w : World) : ∀ n, Below w.heap.size w (w.drewN n) := fun n => ⟨rfl, rfl, rfl, Nat.le_refl _, fun _ _ => rfl⟩

theorem valid_yes (x : Nat) (h : x < 55296 ∨ 57343 < x ∧ x ≤ 1114111) (W : World) : Calls Tryz.prog 90 #[.int .i32 (x : Int)] W fun e w' => e = .returned (.bool true) ∧ W = w' := by
  refine (Tryz.utf8_ValidRune x W).mono ?_
  rintro e w' ⟨rfl, rfl⟩
  refine ⟨?_, rfl⟩
  unfold Lib.validRune
  rw [decide_eq_true (by omega)]

set_option maxRecDepth 1000000 in
set_option maxHeartbeats 1000000 in
theorem rune_two (x : Nat) (h1 : 128 ≤ x) (h2 : x < 65536) (h3 : ¬ x = 65533) (hv : x < 55296 ∨ 57343 < x ∧ x ≤ 1114111) (T : ByteArray) (k n : Nat) (hk : k = 1 ∨ k = 2) (hT : Utf8.encode (x : Int) = T) (hs : T.size = n) (hn : n = k + 1) (hb : ∀ h : k < T.size, 128 ≤ (T[k]'h).toNat) (w : World) :
    Calls Tryz.prog 75 #[.string sgS, .int .i32 (x : Int)] w fun e w' => e = .returned (.int .i64 (-1)) ∧ Below w.heap.size w w' := by
  have hV := fun W => valid_yes x hv W
  have h4 : ((x : Int) == 65533) = false := by rw [beq_eq_false_iff_ne]; omega
  have h5 : ¬ (x : Int) < 128 := by omega
  have hsz : sgS.size = 3 := rfl
  have hlT : k < T.size := by omega
  have hlS : k < sgS.size := by rw [hsz]; omega
  have h128 := hb hlT
  obtain ⟨c, hc⟩ : ∃ c, T[k] = c := ⟨_, rfl⟩
  rw [hc] at h128
  have i1 : ∀ W, (Instr.index 9 (.string T) (.int .i64 (k : Int))).run Tryz.prog W = .ok (.int .u8 (c.toNat : Int)) W := fun W => by
    rw [run_index_string W _ _ _ _ Tryz.underlying9, dif_pos ⟨by omega, by omega⟩]
    simp only [Int.toNat_natCast, hc]
  obtain ⟨d, hd, hd2⟩ : ∃ d : UInt8, sgS[k] = d ∧ d.toNat < 128 := ⟨_, rfl, by
    have : ∀ k (h : k < 3), (sgS[k]'h).toNat < 128 := by decide +kernel
    exact this k (by omega)⟩
  have i2 : ∀ W, (Instr.index 9 (.string sgS) (.int .i64 (k : Int))).run Tryz.prog W = .ok (.int .u8 (d.toNat : Int)) W := fun W => by
    rw [run_index_string W _ _ _ _ Tryz.underlying9, dif_pos ⟨by omega, by omega⟩]
    simp only [Int.toNat_natCast, hd]
  have i3 : ∀ W, (Instr.slice 9 (.string sgS) (some (.int .i64 ((k : Int) + 1))) none none).run Tryz.prog W = .ok (.string (sgS.extract (k + 1) 3)) W := fun W => by
    rw [run_slice_string_l W _ _ Tryz.underlying9 .i64 _ (by omega) (by rw [hsz]; omega), hsz]
    congr 3
  have hne : ((d.toNat : Int) != (c.toNat : Int)) = true := by rw [bne_iff_ne]; omega
  have HN : ∀ j W, Calls Tryz.prog 89 #[.string (sgS.extract j 3), .int .u8 (c.toNat : Int)] W fun e w' => e = .returned (.int .i64 (-1)) ∧ W = w' := fun j W => by
    refine (Tryz.strings_IndexByte _ _ W).mono ?_
    rintro e w' ⟨rfl, rfl⟩
    rw [byteIdx_none]
    · exact ⟨rfl, rfl⟩
    · intro b hb he
      have hm := mem_extract hb
      have : ∀ b ∈ sgS.data.toList, b.toNat < 128 := by decide +kernel
      have h6 := this b hm
      have h7 := congrArg UInt8.toNat he
      rw [show (((c.toNat : Int)).toNat.toUInt8) = c from by simp] at h7
      omega
  have hn1 : (n : Int) - 1 = (k : Int) := by omega
  have hk3 : (k : Int) < 3 := by omega
  have hkn : (k : Int) < (n : Int) := by omega
  have hk1 : (k : Int) + 1 ≤ 3 := by omega
  have hkw : IntKind.i64.wrap ((k : Int) + 1) = (k : Int) + 1 := by rw [IntKind.wrap_i64]; omega
  have hkt : ((k : Int) + 1).toNat = k + 1 := by omega
  have hk0 : (0 : Int) ≤ (k : Int) + 1 := by omega
  clear hk hb hv hlT hlS hc hd hd2 h128 hn
  go_enter Tryz.func75, Tryz.ntmps75
  go_wp2_with (go_at_call 90; refine (hV _).mono ?_; rintro e w' ⟨rfl, rfl⟩)
  go_step3
  go_wp2_with (fail)
  refine wp_loop_rounds 1 ?_
  rw [rounds_succ]
  go_wp2_with (fail)
  go_step3
  go_wp2_with (fail)
  go_quiet (fail)
  go_wp2_with (fail)
  go_quiet ((go_at_call 89; first | exact quiet_add_left' (HN _ _) | exact quiet_left' (HN _ _)))
  go_wp2_with (fail)
  rw [Exit.noGoto_ret]
  go_simp
  first | go_ret | (rw [Exit.noGoto_ret]; go_ret)
  exact ⟨rfl, below_drewN' w _⟩

set_option maxRecDepth 1000000 in
set_option maxHeartbeats 1000000 in
theorem rune_four (x : Nat) (h1 : 65536 ≤ x) (h2 : x ≤ 1114111) (T : ByteArray) (hT : Utf8.encode (x : Int) = T) (hs : T.size = 4) (w : World) :
    Calls Tryz.prog 75 #[.string sgS, .int .i32 (x : Int)] w fun e w' => e = .returned (.int .i64 (-1)) ∧ Below w.heap.size w w' := by
  have hV := fun W => valid_yes x (.inr ⟨by omega, h2⟩) W
  have h4 : ((x : Int) == 65533) = false := by rw [beq_eq_false_iff_ne]; omega
  have h5 : ¬ (x : Int) < 128 := by omega
  have hsz : sgS.size = 3 := rfl
  go_enter Tryz.func75, Tryz.ntmps75
  go_wp2_with (go_at_call 90; refine (hV _).mono ?_; rintro e w' ⟨rfl, rfl⟩)
  go_step3
  go_wp2_with (fail)
  refine wp_loop_rounds 1 ?_
  rw [rounds_succ]
  go_wp2_with (fail)
  rw [Exit.noGoto_ret]
  go_simp
  first | go_ret | (rw [Exit.noGoto_ret]; go_ret)
  exact ⟨rfl, Below.refl _ _⟩

theorem encode_size (x : Nat) (h1 : 128 ≤ x) (hv : x < 55296 ∨ 57343 < x ∧ x ≤ 1114111) : (Utf8.encode (x : Int)).size = (if x < 2048 then 2 else if x < 65536 then 3 else 4) := by
  have hval : Utf8.valid (x : Int) = true := by rw [validRune_eq]; unfold validRune; rw [decide_eq_true (by omega)]
  unfold Utf8.encode
  simp only [hval, if_true, Int.toNat_natCast]
  rw [if_neg (by omega)]
  split
  · rfl
  · split <;> rfl

theorem rune_any (x : Nat) (hx : x ≤ 1114111) (w : World) : Calls Tryz.prog 75 #[.string sgS, .int .i32 (x : Int)] w fun e w' => ∃ k : Int, e = .returned (.int .i64 k) ∧ decide (0 ≤ k) = sgB x ∧ Below w.heap.size w w' := by
  have hno : 128 ≤ x → decide ((0 : Int) ≤ -1) = sgB x := fun h => by
    unfold sgB
    rw [beq_eq_false_iff_ne.2 (by omega), beq_eq_false_iff_ne.2 (by omega), beq_eq_false_iff_ne.2 (by omega)]
    rfl
  by_cases h1 : x < 128
  · refine (rune_low x h1 w).mono ?_
    rintro e w' ⟨k, rfl, h, rfl⟩
    exact ⟨k, rfl, h, Below.refl _ _⟩
  · by_cases h3 : x = 65533
    · subst h3
      refine (rune_err w).mono ?_
      rintro e w' ⟨rfl, h⟩
      exact ⟨_, rfl, hno (by omega), h⟩
    · by_cases hv : x < 55296 ∨ 57343 < x ∧ x ≤ 1114111
      · have hsz := encode_size x (by omega) hv
        have hval : Utf8.valid (x : Int) = true := by rw [validRune_eq]; unfold validRune; rw [decide_eq_true (by omega)]
        have hlast := (encode_facts (x : Int) hval (by omega)).2.2
        by_cases h4 : x < 65536
        · have : ∃ k, (k = 1 ∨ k = 2) ∧ (Utf8.encode (x : Int)).size = k + 1 := by
            rw [hsz]
            by_cases h5 : x < 2048
            · exact ⟨1, .inl rfl, by rw [if_pos h5]⟩
            · exact ⟨2, .inr rfl, by rw [if_neg h5, if_pos h4]⟩
          obtain ⟨k, hk, hk2⟩ := this
          refine (rune_two x (by omega) h4 h3 hv _ k (k + 1) hk rfl hk2 rfl (fun h => ?_) w).mono ?_
          · have e : (Utf8.encode (x : Int)).size - 1 = k := by omega
            have := hlast (by omega)
            simp only [e] at this
            exact this
          · rintro e w' ⟨rfl, h⟩
            exact ⟨_, rfl, hno (by omega), h⟩
        · refine (rune_four x (by omega) hx _ rfl (by rw [hsz, if_neg (by omega), if_neg h4]) w).mono ?_
          rintro e w' ⟨rfl, h⟩
          exact ⟨_, rfl, hno (by omega), h⟩
      · refine (rune_bad x (by omega) (by omega) w).mono ?_
        rintro e w' ⟨rfl, rfl⟩
        exact ⟨_, rfl, hno (by omega), Below.refl _ _⟩

end Go.Proofs.YtldkmclfhjcicaaGreatDoor

/- The tests of characters, and strings.ContainsFunc with them. -/
namespace Go.Proofs.YtldkmclfhjcicaaGreatDoor
open Go.RowKit
set_option linter.unusedVariables false
set_option linter.unusedSimpArgs false

def capR (x : Nat) : Bool := (decide (65 ≤ x) && decide (x ≤ 90)) || (decide (48 ≤ x) && decide (x ≤ 57))

theorem capital_any (x : Nat) (hx : x ≤ 1114111) (w : World) : Calls Tryz.prog 52 #[.int .i32 (x : Int)] w fun e w' => e = .returned (.bool (capR x)) ∧ w = w' := by
  obtain ⟨b, hb⟩ : ∃ b, capR x = b := ⟨_, rfl⟩
  have HB := hid hb
  rw [hb]
  clear hb
  by_cases h1 : (65 : Int) ≤ (x : Int)
  · by_cases h2 : (x : Int) ≤ 90
    · obtain rfl : b = true := by rw [← HB.out]; unfold capR; simp; omega
      go_enter Tryz.func52, Tryz.ntmps52
      go_wp2_with (fail)
      go_ret
      exact ⟨rfl, rfl⟩
    · obtain rfl : b = false := by rw [← HB.out]; unfold capR; simp; omega
      have h3 : (48 : Int) ≤ (x : Int) := by omega
      have h4 : ¬ (x : Int) ≤ 57 := by omega
      go_enter Tryz.func52, Tryz.ntmps52
      go_wp2_with (fail)
      go_ret
      exact ⟨rfl, rfl⟩
  · by_cases h3 : (48 : Int) ≤ (x : Int)
    · by_cases h4 : (x : Int) ≤ 57
      · obtain rfl : b = true := by rw [← HB.out]; unfold capR; simp; omega
        go_enter Tryz.func52, Tryz.ntmps52
        go_wp2_with (fail)
        go_ret
        exact ⟨rfl, rfl⟩
      · obtain rfl : b = false := by rw [← HB.out]; unfold capR; simp; omega
        go_enter Tryz.func52, Tryz.ntmps52
        go_wp2_with (fail)
        go_ret
        exact ⟨rfl, rfl⟩
    · obtain rfl : b = false := by rw [← HB.out]; unfold capR; simp; omega
      go_enter Tryz.func52, Tryz.ntmps52
      go_wp2_with (fail)
      go_ret
      exact ⟨rfl, rfl⟩

theorem ContainsRune_any (x : Nat) (hx : x ≤ 1114111) (w : World) : Calls Tryz.prog 53 #[.string sgS, .int .i32 (x : Int)] w fun e w' => e = .returned (.bool (sgB x)) ∧ Below w.heap.size w w' := by
  go_enter Tryz.func53, Tryz.ntmps53
  go_wp2_with (fail)
  refine (rune_any x hx _).mono ?_
  rintro e w' ⟨k, rfl, hk, hb⟩
  have HK := hid hk.symm
  clear hk
  go_wp2_with (fail)
  go_ret
  exact ⟨ret_bool HK.out, hb⟩

theorem name1_any (x : Nat) (hx : x ≤ 1114111) (w : World) : Calls Tryz.prog 51 #[.int .i32 (x : Int)] w fun e w' => e = .returned (.bool (!capR x && !sgB x)) ∧ Below w.heap.size w w' := by
  have c1 := fun W => capital_any x hx W
  have c2 := fun W => ContainsRune_any x hx W
  unfold sgS at c2
  generalize capR x = a at *
  generalize sgB x = b at *
  cases a
  · cases b
    · go_enter Tryz.func51, Tryz.ntmps51
      go_wp2_with (first | (go_at_call 52; refine (c1 _).mono ?_; rintro e w' ⟨rfl, rfl⟩) | (go_at_call 53; refine (c2 _).mono ?_; rintro e w' ⟨rfl, hb⟩))
      go_ret
      exact ⟨rfl, hb⟩
    · go_enter Tryz.func51, Tryz.ntmps51
      go_wp2_with (first | (go_at_call 52; refine (c1 _).mono ?_; rintro e w' ⟨rfl, rfl⟩) | (go_at_call 53; refine (c2 _).mono ?_; rintro e w' ⟨rfl, hb⟩))
      go_ret
      exact ⟨rfl, hb⟩
  · go_enter Tryz.func51, Tryz.ntmps51
    go_wp2_with (first | (go_at_call 52; refine (c1 _).mono ?_; rintro e w' ⟨rfl, rfl⟩))
    go_ret
    exact ⟨rfl, Below.refl _ _⟩

theorem valid1_any (x : Nat) (hx : x ≤ 1114111) (w : World) : Calls Tryz.prog 68 #[.int .i32 (x : Int)] w fun e w' => e = .returned (.bool (!capR x)) ∧ Below w.heap.size w w' := by
  have c1 := fun W => capital_any x hx W
  generalize capR x = a at *
  go_enter Tryz.func68, Tryz.ntmps68
  go_wp2_with (first | (go_at_call 52; refine (c1 _).mono ?_; rintro e w' ⟨rfl, rfl⟩))
  go_ret
  exact ⟨rfl, Below.refl _ _⟩

theorem hasBad_any (S : ByteArray) (w : World) : Calls Tryz.prog 50 #[.string S, .func (.func 51) #[] #[]] w fun e w' => e = .returned (.bool (!S.data.toList.all partC)) ∧ Chg [] w w' := by
  refine (Tryz.strings_ContainsFunc_grows 51 #[] (enters_of Tryz.func51 (by kernel_rfl) rfl) (fun x => !capR x && !sgB x) S w (fun W x hx hb => name1_any x hx W)).mono ?_
  rintro e w' ⟨rfl, hb⟩
  refine ⟨?_, Chg.of_below hb []⟩
  rw [idx_all _ partC]
  · have : ∀ n < 128, (!capR n && !sgB n) = !partC (UInt8.ofNat n) := by decide +kernel
    intro c hc
    have h := this c.toNat hc
    rwa [UInt8.ofNat_toNat] at h
  · intro x hx
    have h1 : capR x = false := by unfold capR; simp; omega
    have h2 : sgB x = false := by unfold sgB; simp; omega
    simp [h1, h2]
  · have : ∀ n < 256, partC (UInt8.ofNat n) = true → n < 128 := by decide +kernel
    intro c hc
    have h := this c.toNat c.toNat_lt
    rw [UInt8.ofNat_toNat] at h
    exact h hc
theorem hasBadS_any (S : ByteArray) (w : World) : Calls Tryz.prog 50 #[.string S, .func (.func 68) #[] #[]] w fun e w' => e = .returned (.bool (!S.data.toList.all capC)) ∧ Chg [] w w' := by
  refine (Tryz.strings_ContainsFunc_grows 68 #[] (enters_of Tryz.func68 (by kernel_rfl) rfl) (fun x => !capR x) S w (fun W x hx hb => valid1_any x hx W)).mono ?_
  rintro e w' ⟨rfl, hb⟩
  refine ⟨?_, Chg.of_below hb []⟩
  rw [idx_all _ capC]
  · have : ∀ n < 128, (!capR n) = !capC (UInt8.ofNat n) := by decide +kernel
    intro c hc
    have h := this c.toNat hc
    rwa [UInt8.ofNat_toNat] at h
  · intro x hx
    have h1 : capR x = false := by unfold capR; simp; omega
    simp [h1]
  · have : ∀ n < 256, capC (UInt8.ofNat n) = true → n < 128 := by decide +kernel
    intro c hc
    have h := this c.toNat c.toNat_lt
    rw [UInt8.ofNat_toNat] at h
    exact h hc

end Go.Proofs.YtldkmclfhjcicaaGreatDoor

/- strings.SplitSeq at the separator ".": the iterator's word. -/
namespace Go.Proofs.YtldkmclfhjcicaaGreatDoor
open Go.RowKit Go.Shelf
set_option linter.unusedVariables false

attribute [local go_sem] Oper.semAt_some

theorem byteIdx_cases (c : UInt8) : ∀ l : List UInt8, (Lib.indexByte l c = -1 ∧ ∀ x ∈ l, x ≠ c) ∨ ∃ k : Nat, Lib.indexByte l c = k ∧ k < l.length ∧ l = l.take k ++ c :: l.drop (k + 1) ∧ ∀ x ∈ l.take k, x ≠ c
  | [] => .inl ⟨rfl, by simp⟩
  | b :: l => by
    unfold Lib.indexByte
    by_cases hb : b = c
    · subst hb
      rw [if_pos (by simp)]
      exact .inr ⟨0, rfl, by simp, by simp, by simp⟩
    · rw [if_neg (by simpa using hb)]
      rcases byteIdx_cases c l with ⟨h, h'⟩ | ⟨k, h, h1, h2, h3⟩
      · rw [h, if_pos (by simp)]
        exact .inl ⟨rfl, fun x hx => by rcases List.mem_cons.1 hx with rfl | hx; exact hb; exact h' x hx⟩
      · rw [h, if_neg (by simp)]
        refine .inr ⟨k + 1, by omega, by simp; omega, by simp only [List.take_succ_cons, List.drop_succ_cons, List.cons_append]; rw [← h2], fun x hx => ?_⟩
        rw [List.take_succ_cons] at hx
        rcases List.mem_cons.1 hx with rfl | hx
        · exact hb
        · exact h3 x hx

def KpS (a b c : Nat) (W W' : World) : Prop := W'.heap[a]? = W.heap[a]? ∧ W'.heap[b]? = W.heap[b]? ∧ W'.heap[c]? = W.heap[c]?
theorem KpS.refl (a b c : Nat) (W : World) : KpS a b c W W := ⟨rfl, rfl, rfl⟩
theorem KpS.trans {a b c : Nat} {A B C : World} (h : KpS a b c A B) (k : KpS a b c B C) : KpS a b c A C := ⟨k.1.trans h.1, k.2.1.trans h.2.1, k.2.2.trans h.2.2⟩
theorem KpS.put {a b c : Nat} {w : World} (ha : a < w.heap.size) (hb : b < w.heap.size) (hc : c < w.heap.size) (W : World) (l : Nat) (o o' : Obj) (hl : w.heap.size ≤ l) (_ : W.heap[l]? = some o) (_ : o.isCells = false) (_ : o.isWalk = false) : KpS a b c W (W.putObj l o') :=
  ⟨World.putObj_heap_other (by omega), World.putObj_heap_other (by omega), World.putObj_heap_other (by omega)⟩
theorem KpS.of_chg {a b c : Nat} {L : List Nat} {W W' : World} (h : Chg L W W') (ha : a ∉ L) (hb : b ∉ L) (hc : c ∉ L) (la : a < W.heap.size) (lb : b < W.heap.size) (lc : c < W.heap.size) : KpS a b c W W' := ⟨h.block a la ha, h.block b lb hb, h.block c lc hc⟩

theorem grown_setCell (W : World) (b i : Nat) (v : Value) : W.grownBy (W.setCell ⟨b, i, none⟩ v) (some b) :=
  ⟨rfl, rfl, rfl, by simp, fun k _ hk => Below.heap_setCell _ _ _ _ (fun e => hk (by rw [e]))⟩

def strS (x : Bs) : Value := .string ⟨x.toArray⟩

def restLen (w : World) (b : Nat) : Nat := match w.cell? ⟨b, 0, none⟩ with | some (.string t) => t.size | _ => 0
theorem restLen_eq {w : World} {b : Nat} {t : ByteArray} (h : w.cell? ⟨b, 0, none⟩ = some (.string t)) : restLen w b = t.size := by unfold restLen; rw [h]

set_option maxRecDepth 100000 in
set_option maxHeartbeats 2000000 in
theorem split1_in (n : Nat) (hn : 1 ≤ n) (l sB pB vB : Nat) (s : Bs) (hs : s.length ≤ 1000000) (hsp : sB ≠ pB) (hsv : sB ≠ vB) (J Jx : List Bs → World → Prop) (B : Nat) (hJ : AbB sB B J)
    (hY : ∀ pre x W, J pre W → pre.length < s.length + 1 → YieldAt Fence.wide (n - 1) Tryz.prog l #[strS x] W fun e W' =>
      (e = .returned (.bool true) ∧ J (pre ++ [x]) W' ∧ KpS sB pB vB W W') ∨ (e = .returned (.bool false) ∧ Jx (pre ++ [x]) W'))
    (W : World) (hB : W.heap[sB]? = some (.cells #[strS s] 9 (0, 0))) (hp : W.heap[pB]? = some (.cells #[strS [46]] 9 (0, 0))) (hv : W.heap[vB]? = some (.cells #[.int .i64 0] 3 (0, 0))) (h0 : J [] W) :
    CallsIn Fence.wide n Tryz.prog 96 #[.func (.yield l) #[] #[], .pointer (some ⟨pB, 0, none⟩), .pointer (some ⟨sB, 0, none⟩), .pointer (some ⟨vB, 0, none⟩)] W fun e W' => (∃ v, e = .returned v) ∧
      ((∃ xs, xs = splitAtC 46 s ∧ J xs W') ∨ (∃ pre, pre <+: splitAtC 46 s ∧ Jx pre W')) := by
  have cp := cell_of_one hp
  have cs := cell_of_one hB
  have HP := hid hp
  have HV := hid hv
  have HBB := hid hB
  clear hp hv hB
  refine callsIn_of_wp Tryz.func96 rfl trivial ?_ rfl
  simp only [Tryz.ntmps96, List.size_toArray, List.length_cons, List.length_nil, Nat.reduceAdd, Nat.reduceSub, Array.replicate_succ, Array.replicate_zero, List.push_toArray, List.append_toArray, List.nil_append, List.cons_append]
  unfold strS at cp
  gi_wp2
  gi_loopw [] (fun wr => ∃ (pre : List Bs) (rest : Bs), Hid (splitAtC 46 s = pre ++ splitAtC 46 rest) ∧ pre.length + rest.length ≤ s.length ∧ Hid (J pre wr) ∧ Hid (wr.heap[sB]? = some (.cells #[strS rest] 9 (0, 0))) ∧ Hid (wr.heap[pB]? = some (.cells #[strS [46]] 9 (0, 0))) ∧ Hid (wr.heap[vB]? = some (.cells #[.int .i64 0] 3 (0, 0))))
    (fun wr => restLen wr sB)
  case atStart => exact ⟨[], s, rfl, by simp, h0, HBB, HP, HV⟩
  case round =>
    clear cp cs
    obtain ⟨pre, rest, hsplit, hlen, hJs, hb, hp, hv⟩ := hrel
    have hlen1 : pre.length < s.length + 1 := by omega
    have hb1 := lt_of_block hb.out
    obtain ⟨T, hT⟩ : ∃ T : ByteArray, (⟨rest.toArray⟩ : ByteArray) = T := ⟨_, rfl⟩
    have hTd : T.data.toList = rest := by rw [← hT]
    have hTs : T.size = rest.length := by rw [← hT]; rfl
    have cs := cell_of_one hb.out
    have cp := cell_of_one hp.out
    have cv := cell_of_one hv.out
    have fs := free_of_one hb.out
    unfold strS at cs cp
    rw [hT] at cs
    have hI : ∀ W, Calls Tryz.prog 98 #[.string T, .string ⟨#[46]⟩] W fun e w' => e = .returned (.int .i64 (Lib.indexByte rest 46)) ∧ W = w' := fun W => by
      have h := Tryz.strings_Index_one T 46 W
      rw [hTd] at h
      exact h.mono fun _ _ ⟨a, b⟩ => ⟨a, b.symm⟩
    have hm := restLen_eq cs
    rw [hTs] at hm
    have HM := hid hm
    have HTd := hid hTd
    have HTs := hid hTs
    clear hTd hTs hm
    rcases byteIdx_cases 46 rest with ⟨h1, h2⟩ | ⟨k, h1, h2, h3, h4⟩
    · rw [h1] at hI
      have hlast := hid (splitAtC_last 46 rest h2)
      obtain ⟨fn, tmps, assign, body, hy, hR⟩ := hY pre rest wr hJs.out hlen1
      unfold strS at hy
      rw [hT] at hy
      clear h1 h2 hT
      gi_wp2_with (refine ⟨trivial, ?_⟩; gi_at_call 98; refine (callsIn_wide.2 (hI _)).mono ?_; rintro e w' ⟨rfl, rfl⟩)
      refine hR.mono ?_
      rintro e W3 (⟨rfl, hJ3, hk3⟩ | ⟨rfl, hJx3⟩)
      · gi_wp2
        go_end0
        exact ⟨⟨_, rfl⟩, .inl ⟨_, by rw [hsplit.out, hlast.out], hJ3⟩⟩
      · gi_wp2
        go_end0
        exact ⟨⟨_, rfl⟩, .inr ⟨_, by rw [hsplit.out, hlast.out]; exact List.prefix_rfl, hJx3⟩⟩
    · rw [h1] at hI
      have hstep := hid (show splitAtC 46 rest = rest.take k :: splitAtC 46 (rest.drop (k + 1)) from by
        conv => lhs; rw [h3]
        exact splitAtC_cons 46 _ _ h4)
      obtain ⟨fn, tmps, assign, body, hy, hR⟩ := hY pre (rest.take k) wr hJs.out hlen1
      unfold strS at hy
      obtain ⟨X1, hX1⟩ : ∃ X : ByteArray, (⟨(rest.take k).toArray⟩ : ByteArray) = X := ⟨_, rfl⟩
      obtain ⟨X2, hX2⟩ : ∃ X : ByteArray, (⟨(rest.drop (k + 1)).toArray⟩ : ByteArray) = X := ⟨_, rfl⟩
      have e1 : T.extract 0 k = X1 := by
        rw [← hX1]; apply str_inj; rw [ByteArray.data_extract, Array.toList_extract, HTd.out]; simp
      have e2 : T.extract (k + 1) T.size = X2 := by
        rw [← hX2]; apply str_inj; rw [ByteArray.data_extract, Array.toList_extract, HTd.out, HTs.out]; simp only [List.extract_eq_take_drop]; exact List.take_of_length_le (by simp)
      rw [hX1] at hy
      have hkT : k < T.size := by rw [HTs.out]; exact h2
      have hkTi : (k : Int) ≤ (T.size : Int) := by omega
      have hkTj : (k : Int) + 1 ≤ (T.size : Int) := by omega
      have hTmax : T.size ≤ 1000000 := by rw [HTs.out]; omega
      have HX2 := hid hX2
      have hdl : (rest.drop (k + 1)).length = rest.length - (k + 1) := List.length_drop
      have HDL := hid hdl
      clear h1 h3 h4 hT hX1 hX2 hdl
      gi_wp2_with (refine ⟨trivial, ?_⟩; gi_at_call 98; refine (callsIn_wide.2 (hI _)).mono ?_; rintro e w' ⟨rfl, rfl⟩)
      refine hR.mono ?_
      rintro e W3 (⟨rfl, hJ3, hk3⟩ | ⟨rfl, hJx3⟩)
      · have hb3 := hk3.1.trans hb.out
        have hp3 := hk3.2.1.trans hp.out
        have hv3 := hk3.2.2.trans hv.out
        have cs3 : W3.cell? ⟨sB, 0, none⟩ = some (.string T) := (World.cell?_of_block (w := wr) (a := ⟨sB, 0, none⟩) hk3.1).trans cs
        have cp3 : W3.cell? ⟨pB, 0, none⟩ = some (.string ⟨#[46]⟩) := (World.cell?_of_block (w := wr) (a := ⟨pB, 0, none⟩) hk3.2.1).trans cp
        have fs3 : W3.frozen? ⟨sB, 0, none⟩ = false := free_of_one hb3
        have J4 := hid (hJ _ _ _ _ hJ3 (grown_setCell W3 sB 0 (.string X2)) (fun r e => by cases e; exact .inl rfl))
        have hb4 := hid (one_setCell (u := .string X2) hb3)
        have hp4 := hid ((heap_setCell_other W3 ⟨sB, 0, none⟩ pB (.string X2) (Ne.symm hsp)).trans hp3)
        have hv4 := hid ((heap_setCell_other W3 ⟨sB, 0, none⟩ vB (.string X2) (Ne.symm hsv)).trans hv3)
        clear hb3 hp3 hv3 hJ3 hk3 cs cp cv fs hy hR
        gi_wp2
        go_roundw
        case rel =>
          refine ⟨pre ++ [rest.take k], rest.drop (k + 1), ?_, ?_, J4.out, ?_, hp4.out, hv4.out⟩
          · show splitAtC 46 s = _
            rw [hsplit.out, hstep.out]; simp
          · rw [HDL.out, List.length_append, List.length_singleton]; rw [HTs.out] at hkT; omega
          · show _ = _
            rw [hb4.out, ← HX2.out]; rfl
        case measure =>
          rw [HM.out, restLen_eq (t := X2) (cell_of_one hb4.out), ← HX2.out]
          show (rest.drop (k + 1)).length < _
          rw [HDL.out]; rw [HTs.out] at hkT; omega
      · gi_wp2
        refine bodyPost_ret (results_none rfl _ _ _) rfl ?_
        refine ⟨⟨_, rfl⟩, .inr ⟨_, ?_, hJx3⟩⟩
        rw [hsplit.out, hstep.out]
        exact ⟨splitAtC 46 (rest.drop (k + 1)), by simp⟩

theorem split_seq (n : Nat) (hn : 1 ≤ n) (sB pB vB : Nat) (s : Bs) (hs : s.length ≤ 1000000) (hsp : sB ≠ pB) (hsv : sB ≠ vB) (w : World)
    (hB : w.heap[sB]? = some (.cells #[strS s] 9 (0, 0))) (hp : w.heap[pB]? = some (.cells #[strS [46]] 9 (0, 0))) (hv : w.heap[vB]? = some (.cells #[.int .i64 0] 3 (0, 0))) :
    SeqB n Tryz.prog 96 #[.pointer (some ⟨pB, 0, none⟩), .pointer (some ⟨sB, 0, none⟩), .pointer (some ⟨vB, 0, none⟩)] strS (KpS sB pB vB) (fun xs => xs = splitAtC 46 s) (fun pre => pre <+: splitAtC 46 s) (s.length + 1) sB w :=
  fun l J Jx W hW hJ hJx hY h0 => split1_in n hn l sB pB vB s hs hsp hsv J Jx W.heap.size hJ hY W ((hW.block sB (lt_of_block hB)).trans hB) ((hW.block pB (lt_of_block hp)).trans hp) ((hW.block vB (lt_of_block hv)).trans hv) h0

end Go.Proofs.YtldkmclfhjcicaaGreatDoor

/- Name of layer 27. -/
namespace Go.Proofs.YtldkmclfhjcicaaGreatDoor
open Go.RowKit Go.Shelf
set_option linter.unusedVariables false
set_option linter.unusedSimpArgs false
attribute [local go_sem] Oper.semAt_some

def partsV (k : Nat) : Value := .func (.func 96) #[] #[.pointer (some ⟨k + 1, 0, none⟩), .pointer (some ⟨k, 0, none⟩), .pointer (some ⟨k + 1 + 1, 0, none⟩)]
theorem splitSeq_any (S : ByteArray) (w : World) : Calls Tryz.prog 87 #[.string S, .string ⟨#[46]⟩, .int .i64 0] w fun e w' => e = .returned (partsV w.heap.size) ∧
    w' = ((w.alloc (.cells #[.string S] 9)).alloc (.cells #[.string ⟨#[46]⟩] 9)).alloc (.cells #[.int .i64 0] 3) := by
  go_enter Tryz.func87, Tryz.ntmps87
  go_wp2
  go_ret
  exact ⟨rfl, rfl⟩
theorem SplitSeq_any (S : ByteArray) (w : World) : Calls Tryz.prog 73 #[.string S, .string ⟨#[46]⟩] w fun e w' => e = .returned (partsV w.heap.size) ∧
    w' = ((w.alloc (.cells #[.string S] 9)).alloc (.cells #[.string ⟨#[46]⟩] 9)).alloc (.cells #[.int .i64 0] 3) := by
  go_enter Tryz.func73, Tryz.ntmps73
  go_wp2_with (go_at_call 87; refine (splitSeq_any _ _).mono ?_; rintro e w' ⟨rfl, rfl⟩)
  go_ret
  exact ⟨rfl, rfl⟩
theorem parts_any (S : ByteArray) (w : World) : Calls Tryz.prog 49 #[.string S] w fun e w' => e = .returned (partsV w.heap.size) ∧
    w' = ((w.alloc (.cells #[.string S] 9)).alloc (.cells #[.string ⟨#[46]⟩] 9)).alloc (.cells #[.int .i64 0] 3) := by
  go_enter Tryz.func49, Tryz.ntmps49
  go_wp2_with (go_at_call 73; refine (SplitSeq_any _ _).mono ?_; rintro e w' ⟨rfl, rfl⟩)
  go_ret
  exact ⟨rfl, rfl⟩

section
variable {W W' : World} {row : Option Nat} {b B : Nat}
theorem heap_turnB {k : Nat} {c : Array Value} {e : TypeId} {f : Nat × Nat} (h : W.heap[k]? = some (.cells c e f)) (hg : W.grownBy W' row) (hk : k ≠ b)
    (hr : ∀ r, row = some r → r = b ∨ (B ≤ r ∧ ∃ o : Obj, W.heap[r]? = some o ∧ o.isCells = false)) : W'.heap[k]? = some (.cells c e f) := by
  refine (hg.block k (lt_of_block h) (fun e => ?_)).trans h
  rcases hr k e.symm with h' | ⟨_, o, ho, hc⟩
  · exact hk h'
  · rw [h] at ho; cases ho; simp [Obj.isCells] at hc
theorem Chg.turnB {w0 : World} (h : Chg [] w0 W) (hb : w0.heap.size ≤ b) (hB : w0.heap.size ≤ B) (hg : W.grownBy W' row)
    (hr : ∀ r, row = some r → r = b ∨ (B ≤ r ∧ ∃ o : Obj, W.heap[r]? = some o ∧ o.isCells = false)) : Chg [] w0 W' :=
  h.then (Chg.of_grownBy (L := row.toList) hg (fun k e => .inl (by simp [e]))) (fun i hi hlt => by
    rcases hr i (by simpa using hi) with h' | ⟨h', _⟩ <;> omega)
end

theorem Name_long (S : ByteArray) (w : World) (h : (44 : Int) < (S.size : Int)) : Calls Tryz.prog 20 #[.string S] w fun e w' => e = .returned (.bool (nameOk S.data.toList)) ∧ Chg [] w w' := by
  have H := hid (show nameOk S.data.toList = false from by unfold nameOk; rw [decide_eq_false (by simp; omega)]; rfl)
  go_enter Tryz.func20, Tryz.ntmps20
  go_wp2
  exact bodyPost_ret (v := .bool false) (by simp [results, Tryz.f20, go_sem]) rfl ⟨by rw [H.out], Chg.alloc _ _ _⟩

theorem part_no (x : Bs) (s : Bs) (pre : List Bs) (h : partOk x = false) : pre ++ [x] <+: splitAtC 46 s → nameOk s = false := by
  intro hp
  unfold nameOk
  have : (splitAtC 46 s).all partOk = false := by
    rw [List.all_eq_false]
    exact ⟨x, hp.subset (by simp), by simp [h]⟩
  rw [this, Bool.and_false]

set_option maxRecDepth 100000 in
set_option maxHeartbeats 2000000 in
theorem Name_short (S : ByteArray) (w : World) (h : ¬ (44 : Int) < (S.size : Int)) : Calls Tryz.prog 20 #[.string S] w fun e w' => e = .returned (.bool (nameOk S.data.toList)) ∧ Chg [] w w' := by
  obtain ⟨s, hs⟩ : ∃ s, s = S.data.toList := ⟨_, rfl⟩
  have hlen : s.length ≤ 44 := by rw [hs]; simp; omega
  have hS : strS s = .string S := by unfold strS; rw [hs, bs_of]
  obtain ⟨R, hR⟩ : ∃ R, nameOk S.data.toList = R := ⟨_, rfl⟩
  have HR := hid (show nameOk s = R from by rw [hs]; exact hR)
  rw [hR]
  clear hR hs
  have HS := hid hS
  clear hS
  refine (callsIn_wide (n := 7)).1 ?_
  refine callsIn_of_wp_marks Tryz.func20 rfl trivial ?_ rfl
  simp only [Tryz.ntmps20, List.size_toArray, List.length_cons, List.length_nil, Nat.reduceAdd, Nat.reduceSub, Array.replicate_succ, Array.replicate_zero, List.push_toArray, List.append_toArray, List.nil_append, List.cons_append]
  refine wpIn_wide.2 ?_
  go_wp2_with (go_at_call 49; refine (parts_any _ _).mono ?_; rintro e w' ⟨rfl, rfl⟩)
  unfold partsV
  have hr0 : ((((w.alloc (.cells #[.bool false] 4)).alloc (.cells #[.string S] 9)).alloc (.cells #[.string ⟨#[46]⟩] 9)).alloc (.cells #[.int .i64 0] 3)).heap[w.heap.size]? = some (.cells #[.bool false] 4 (0, 0)) := al_old (al_old (al_old (al_new rfl)))
  have hb0 : ((((w.alloc (.cells #[.bool false] 4)).alloc (.cells #[.string S] 9)).alloc (.cells #[.string ⟨#[46]⟩] 9)).alloc (.cells #[.int .i64 0] 3)).heap[w.heap.size + 1]? = some (.cells #[strS s] 9 (0, 0)) := by rw [HS.out]; exact al_old (al_old (al_new (by simp)))
  have hp0 : ((((w.alloc (.cells #[.bool false] 4)).alloc (.cells #[.string S] 9)).alloc (.cells #[.string ⟨#[46]⟩] 9)).alloc (.cells #[.int .i64 0] 3)).heap[w.heap.size + 1 + 1]? = some (.cells #[strS [46]] 9 (0, 0)) := al_old (al_new (by simp))
  have hv0 : ((((w.alloc (.cells #[.bool false] 4)).alloc (.cells #[.string S] 9)).alloc (.cells #[.string ⟨#[46]⟩] 9)).alloc (.cells #[.int .i64 0] 3)).heap[w.heap.size + 1 + 1 + 1]? = some (.cells #[.int .i64 0] 3 (0, 0)) := al_new (by simp)
  have hc0 : Chg [] w ((((w.alloc (.cells #[.bool false] 4)).alloc (.cells #[.string S] 9)).alloc (.cells #[.string ⟨#[46]⟩] 9)).alloc (.cells #[.int .i64 0] 3)) := (((Chg.alloc _ _ _).trans (Chg.alloc _ _ _)).trans (Chg.alloc _ _ _)).trans (Chg.alloc _ _ _)
  have hz0 : ((((w.alloc (.cells #[.bool false] 4)).alloc (.cells #[.string S] 9)).alloc (.cells #[.string ⟨#[46]⟩] 9)).alloc (.cells #[.int .i64 0] 3)).heap.size = w.heap.size + 4 := by simp
  generalize (((w.alloc (.cells #[.bool false] 4)).alloc (.cells #[.string S] 9)).alloc (.cells #[.string ⟨#[46]⟩] 9)).alloc (.cells #[.int .i64 0] 3) = W0 at *
  have hlt0 : w.heap.size + 4 ≤ W0.heap.size := by omega
  clear hz0
  refine rangeB 3 6 (w.heap.size + 1) (by omega) rfl (enters_of Tryz.func96 (by kernel_rfl) rfl) strS (by omega)
    (split_seq 5 (by omega) (w.heap.size + 1) (w.heap.size + 1 + 1) (w.heap.size + 1 + 1 + 1) s (by omega) (by omega) (by omega) W0 hb0 hp0 hv0)
    (fun h k => h.trans k) (KpS.put (by omega) (by omega) (by omega))
    (fun pre W => (∀ x ∈ pre, partOk x = true) ∧ W.heap[w.heap.size]? = some (.cells #[.bool false] 4 (0, 0)) ∧ Chg [] w W ∧ w.heap.size + 4 ≤ W.heap.size)
    (fun c pre W => c = .ret ∧ (pre <+: splitAtC 46 s → nameOk s = false) ∧ W.heap[w.heap.size]? = some (.cells #[.bool false] 4 (0, 0)) ∧ Chg [] w W ∧ w.heap.size + 4 ≤ W.heap.size)
    (fun p W W' row hs hg hr => ⟨hs.1, heap_turnB hs.2.1 hg (by omega) hr, hs.2.2.1.turnB (by omega) (by omega) hg hr, Nat.le_trans hs.2.2.2 hg.size⟩)
    (fun c p W W' row hs hg hr => ⟨hs.1, hs.2.1, heap_turnB hs.2.2.1 hg (by omega) hr, hs.2.2.2.1.turnB (by omega) (by omega) hg hr, Nat.le_trans hs.2.2.2.2 hg.size⟩)
    ⟨by simp, hr0, hc0, hlt0⟩ ?assign ?body ?done ?stop
  case assign =>
    intro l x W K hK
    simp only [frameB, List.setIfInBounds_toArray, List.set_cons_succ, List.set_cons_zero] at hK
    gi_wp2
    exact hK
  case body =>
    rintro l pre x W ⟨hall, hr, hc, hsz⟩ hlen
    have c0 := cell_of_one hr
    have f0 := free_of_one hr
    simp only [frameB, List.setIfInBounds_toArray, List.set_cons_succ, List.set_cons_zero]
    unfold strS
    obtain ⟨X, hX⟩ : ∃ X : ByteArray, (⟨x.toArray⟩ : ByteArray) = X := ⟨_, rfl⟩
    rw [hX]
    have hXd : X.data.toList = x := by rw [← hX]
    have HXd := hid hXd
    have HR0 := hid hr
    have HC := hid hc
    clear hX hr hc hr0 hb0 hp0 hv0 hc0 hlt0 hlen hXd
    have fin : ∀ W', Chg [] W W' → partOk x = false → ownPostK (KpS (w.heap.size + 1) (w.heap.size + 1 + 1) (w.heap.size + 1 + 1 + 1))
        (fun pre W => (∀ x ∈ pre, partOk x = true) ∧ W.heap[w.heap.size]? = some (.cells #[.bool false] 4 (0, 0)) ∧ Chg [] w W ∧ w.heap.size + 4 ≤ W.heap.size)
        (fun c pre W => c = .ret ∧ (pre <+: splitAtC 46 s → nameOk s = false) ∧ W.heap[w.heap.size]? = some (.cells #[.bool false] 4 (0, 0)) ∧ Chg [] w W ∧ w.heap.size + 4 ≤ W.heap.size)
        (pre ++ [x]) W .ret { tmps := #[], defers := [] } (W'.setCell ⟨w.heap.size, 0, none⟩ (.bool false)) := by
      intro W' hW hno
      have hk1 : W'.heap[w.heap.size]? = some (.cells #[.bool false] 4 (0, 0)) := hW.heap HR0.out (by simp)
      have hk2 : KeepsOthers W W' := keeps_chg hW
      refine ⟨hk2.trans (KeepsOthers.setCell _ _ _), rfl, part_no x s pre hno, one_setCell hk1, (HC.out.trans hW).then (Chg.setCell (L := [w.heap.size]) (p := ⟨w.heap.size, 0, none⟩) _ (.inl (by simp)) _) (by simp), ?_⟩
      have := hW.size
      simp; omega
    have HF := hid fin
    clear fin
    have c38 : ∀ b, (!x.all partC) = b → ∀ W', Calls Tryz.prog 50 #[.string X, .func (.func 51) #[] #[]] W' fun e w' => e = .returned (.bool b) ∧ Chg [] W' w' := fun b hb W' => by
      have h := hasBad_any X W'
      rw [HXd.out, hb] at h
      exact h
    have HC38 := hid c38
    clear c38
    by_cases h1 : X.size = 0
    · have hno : partOk x = false := by unfold partOk; rw [← HXd.out, bs_len, h1]; rfl
      have q1 : X.toList = [] := by rw [ByteArray.toList_eq]; exact List.eq_nil_of_length_eq_zero (by rw [bs_len]; exact h1)
      have HN := hid hno
      clear hno
      gi_wp2_with (refine ⟨trivial, ?_⟩)
      exact HF.out _ (Chg.refl _ _) HN.out
    · have hpos : 0 < X.size := by omega
      have q1 : X.toList.isEmpty = false := by
        rw [ByteArray.toList_eq]
        cases hx : X.data.toList with
        | nil => have := bs_len X; rw [hx] at this; simp at this; omega
        | cons a b => rfl
      obtain ⟨c, hc⟩ : ∃ c, X[0] = c := ⟨_, rfl⟩
      have hxc : x.headD 0 = c := by
        have hd : X.data.toList[0]? = some c := by
          rw [List.getElem?_eq_getElem (by rw [bs_len]; exact hpos), ← hc]; rfl
        rw [HXd.out] at hd
        cases hx : x with
        | nil => rw [hx] at hd; simp at hd
        | cons a b => rw [hx] at hd; simpa using hd
      have i1 : ∀ W, (Instr.index 9 (.string X) (.int .i64 0)).run Tryz.prog W = .ok (.int .u8 (c.toNat : Int)) W := fun W => by
        rw [run_index_string W _ _ _ _ Tryz.underlying9, dif_pos ⟨by omega, by omega⟩]
        simp only [Int.toNat_zero, hc]
      have hlx : x.length = X.size := by rw [← HXd.out, bs_len]
      have hcl := c.toNat_lt
      clear hc
      by_cases h2 : (8 : Int) < (X.size : Int)
      · have hno : partOk x = false := by unfold partOk; rw [decide_eq_false (by omega : ¬ x.length ≤ 8)]; simp
        have HN := hid hno
        clear hno hlx hxc
        gi_wp2_with (refine ⟨trivial, ?_⟩)
        exact HF.out _ (Chg.refl _ _) HN.out
      · by_cases h3 : (48 : Int) ≤ (c.toNat : Int) ∧ (c.toNat : Int) ≤ 57
        · obtain ⟨h3, h4⟩ := h3
          have hno : partOk x = false := by
            unfold partOk digC
            rw [hxc, decide_eq_true (by omega : 48 ≤ c.toNat), decide_eq_true (by omega : c.toNat ≤ 57)]; simp
          have HN := hid hno
          clear hno hlx hxc
          gi_wp2_with (refine ⟨trivial, ?_⟩)
          exact HF.out _ (Chg.refl _ _) HN.out
        · have hpart : partOk x = x.all partC := by
            unfold partOk digC
            rw [hxc, decide_eq_true (by omega : 1 ≤ x.length), decide_eq_true (by omega : x.length ≤ 8)]
            have : (decide (48 ≤ c.toNat) && decide (c.toNat ≤ 57)) = false := by simp; omega
            rw [this]; simp
          have HPt := hid hpart
          clear hpart hxc hlx
          cases hb : x.all partC
          · have c38 := HC38.out true (by rw [hb]; rfl)
            have HN := hid (HPt.out.trans hb)
            clear hb
            by_cases h4 : (48 : Int) ≤ (c.toNat : Int)
            · have h5 : ¬ (c.toNat : Int) ≤ 57 := fun h => h3 ⟨h4, h⟩
              clear h3
              gi_wp2_with (refine ⟨trivial, ?_⟩; gi_at_call 50; refine (CallsIn.inRound l (callsIn_wide.2 (c38 _))).mono ?_; rintro e w' ⟨rfl, hcw⟩; have c0' := hcw.cell c0 (by simp); have f0' := free_of_one (hcw.heap HR0.out (by simp)))
              exact HF.out _ hcw HN.out
            · clear h3
              gi_wp2_with (refine ⟨trivial, ?_⟩; gi_at_call 50; refine (CallsIn.inRound l (callsIn_wide.2 (c38 _))).mono ?_; rintro e w' ⟨rfl, hcw⟩; have c0' := hcw.cell c0 (by simp); have f0' := free_of_one (hcw.heap HR0.out (by simp)))
              exact HF.out _ hcw HN.out
          · have c38 := HC38.out false (by rw [hb]; rfl)
            have HN := hid (HPt.out.trans hb)
            clear hb
            have done : ∀ w', Chg [] W w' → KeepsOthers W w' ∧ KpS (w.heap.size + 1) (w.heap.size + 1 + 1) (w.heap.size + 1 + 1 + 1) W w' ∧ (∀ y ∈ pre ++ [x], partOk y = true) ∧ w'.heap[w.heap.size]? = some (.cells #[.bool false] 4 (0, 0)) ∧ Chg [] w w' ∧ w.heap.size + 4 ≤ w'.heap.size := by
              intro w' hw
              have hz := hw.size
              refine ⟨keeps_chg hw, KpS.of_chg hw (by simp) (by simp) (by simp) (by omega) (by omega) (by omega), ?_, hw.heap HR0.out (by simp), HC.out.trans hw, by omega⟩
              intro y hy
              rcases List.mem_append.1 hy with h | h
              · exact hall y h
              · rw [List.mem_singleton.1 h]; exact HN.out
            have HDn := hid done
            clear done
            by_cases h4 : (48 : Int) ≤ (c.toNat : Int)
            · have h5 : ¬ (c.toNat : Int) ≤ 57 := fun h => h3 ⟨h4, h⟩
              clear h3
              gi_wp2_with (refine ⟨trivial, ?_⟩; gi_at_call 50; refine (CallsIn.inRound l (callsIn_wide.2 (c38 _))).mono ?_; rintro e w' ⟨rfl, hcw⟩)
              exact HDn.out _ hcw
            · clear h3
              gi_wp2_with (refine ⟨trivial, ?_⟩; gi_at_call 50; refine (CallsIn.inRound l (callsIn_wide.2 (c38 _))).mono ?_; rintro e w' ⟨rfl, hcw⟩)
              exact HDn.out _ hcw
  case done =>
    rintro D xs W hD rfl ⟨hall, hr, hc, hsz⟩ hK
    have hyes : nameOk s = true := by
      unfold nameOk
      rw [decide_eq_true hlen, Bool.true_and, List.all_eq_true]
      exact hall
    obtain rfl : R = true := HR.out.symm.trans hyes
    have c0 := cell_of_one hr
    have f0 := free_of_one hr
    have HK := hid hK
    have HC := hid hc
    have HR0 := hid hr
    clear hyes hall hr0 hb0 hp0 hv0 hc0 hK hc hr
    go_wp2_with (fail)
    have hk3 : (W.setCell ⟨w.heap.size, 0, none⟩ (.bool true)).heap[D]? = some (.deferred (some [])) := (heap_setCell_other W ⟨w.heap.size, 0, none⟩ D (.bool true) (by simp; omega)).trans HK.out
    have hr3 := one_setCell (u := .bool true) HR0.out
    have hc3 := HC.out.then (Chg.setCell (L := [w.heap.size]) (p := ⟨w.heap.size, 0, none⟩) W (.inl (by simp)) (.bool true)) (by simp)
    generalize W.setCell ⟨w.heap.size, 0, none⟩ (.bool true) = W3 at *
    have q0 := heap_turnB (b := D) (B := D) hr3 (grownBy_putObj' W3 D (.deferred none)) (by omega) (fun r e => by cases e; exact .inl rfl)
    have q1 := cell_of_one q0
    refine ⟨by simp, .inl ⟨_, _, rfl, run_takeDeferred hk3, ?_⟩⟩
    refine ⟨.bool true, ?_, rfl, ?_⟩
    · simp [results, Tryz.f20, go_sem, q1]
    · exact hc3.then (Chg.of_grownBy (L := [D]) (grownBy_putObj' W3 D (.deferred none)) (fun k e => by cases e; exact .inl (by simp))) (by simp; omega)
  case stop =>
    rintro D c pre W hD hpre ⟨rfl, hno, hr, hc, hsz⟩ hK
    obtain rfl : R = false := HR.out.symm.trans (hno hpre)
    have HK := hid hK
    have HC := hid hc
    have HR0 := hid hr
    clear hno hr0 hb0 hp0 hv0 hc0 hK hc hr
    go_wp2_with (fail)
    have q0 := heap_turnB (b := D) (B := D) HR0.out (grownBy_putObj' W D (.deferred none)) (by omega) (fun r e => by cases e; exact .inl rfl)
    have q1 := cell_of_one q0
    refine ⟨by simp, .inl ⟨_, _, rfl, run_takeDeferred HK.out, ?_⟩⟩
    refine ⟨.bool false, ?_, rfl, ?_⟩
    · simp [results, Tryz.f20, go_sem, q1]
    · exact HC.out.then (Chg.of_grownBy (L := [D]) (grownBy_putObj' W D (.deferred none)) (fun k e => by cases e; exact .inl (by simp))) (by simp; omega)

theorem Name_any (S : ByteArray) (w : World) : Calls Tryz.prog 20 #[.string S] w fun e w' => e = .returned (.bool (nameOk S.data.toList)) ∧ Chg [] w w' := by
  by_cases h : (44 : Int) < (S.size : Int)
  · exact Name_long S w h
  · exact Name_short S w h

end Go.Proofs.YtldkmclfhjcicaaGreatDoor

/- Generation of layer 27. -/
namespace Go.Proofs.YtldkmclfhjcicaaGreatDoor
open Go.RowKit Go.Shelf
set_option linter.unusedVariables false
set_option linter.unusedSimpArgs false

theorem Generation_bad (S : ByteArray) (n : Int) (w : World) (h : genOk S.data.toList n = false) : Calls Tryz.prog 21 #[.string S, .int .i64 n] w fun e w' => e = .returned (.tuple #[.string ⟨#[]⟩, .bool false]) ∧ Chg [] w w' := by
  have c := Name_any S w
  unfold genOk at h
  generalize nameOk S.data.toList = a at *
  cases a
  · clear h
    go_enter Tryz.func21, Tryz.ntmps21
    go_wp2_with (go_at_call 20; refine c.mono ?_; rintro e w' ⟨rfl, hc⟩)
    go_ret2
    exact ⟨rfl, hc⟩
  · by_cases h1 : (35 : Int) < (S.size : Int)
    · clear h
      go_enter Tryz.func21, Tryz.ntmps21
      go_wp2_with (go_at_call 20; refine c.mono ?_; rintro e w' ⟨rfl, hc⟩)
      go_ret2
      exact ⟨rfl, hc⟩
    · by_cases h2 : n < 1
      · clear h
        go_enter Tryz.func21, Tryz.ntmps21
        go_wp2_with (go_at_call 20; refine c.mono ?_; rintro e w' ⟨rfl, hc⟩)
        go_ret2
        exact ⟨rfl, hc⟩
      · have h3 : 9999 < n := by
          rw [decide_eq_true (by simp; omega : S.data.toList.length ≤ 35), decide_eq_true (by omega : 1 ≤ n)] at h
          simp at h; omega
        clear h
        go_enter Tryz.func21, Tryz.ntmps21
        go_wp2_with (go_at_call 20; refine c.mono ?_; rintro e w' ⟨rfl, hc⟩)
        go_ret2
        exact ⟨rfl, hc⟩

set_option maxRecDepth 100000 in
set_option maxHeartbeats 1000000 in
theorem Generation_good (S : ByteArray) (n : Nat) (w : World) (h1 : 1 ≤ n) (h2 : n ≤ 9999) (h3 : S.size ≤ 35) (hn : nameOk S.data.toList = true) :
    Calls Tryz.prog 21 #[.string S, .int .i64 (n : Int)] w fun e w' => e = .returned (.tuple #[bsV (genName S.data.toList n), .bool true]) ∧ Chg [] w w' := by
  have c := Name_any S w
  rw [hn] at c
  have hmk : ∀ W, (Instr.makeSlice 27 (.int .i64 4) (.int .i64 4)).run Tryz.prog W = .ok (.slice (some ⟨W.heap.size, 0, none⟩) 4 4) (W.alloc (.cells #[.int .u8 0, .int .u8 0, .int .u8 0, .int .u8 0] 5)) := fun _ => by kernel_rfl
  clear hn
  obtain ⟨D, hD⟩ : ∃ D : ByteArray, (⟨(dig4 n).toArray⟩ : ByteArray) = D := ⟨_, rfl⟩
  have hDs : D.size = 4 := by rw [← hD]; rfl
  have hcv : ∀ W : World, (convert 27 9 (.slice (some ⟨W.heap.size, 0, none⟩) 4 4)).run Tryz.prog (W.alloc (.cells #[.int .u8 (48 + (n : Int) / 10 / 10 / 10 % 10), .int .u8 (48 + (n : Int) / 10 / 10 % 10), .int .u8 (48 + (n : Int) / 10 % 10), .int .u8 (48 + (n : Int) % 10)] 5)) =
      .ok (.string D) (W.alloc (.cells #[.int .u8 (48 + (n : Int) / 10 / 10 / 10 % 10), .int .u8 (48 + (n : Int) / 10 / 10 % 10), .int .u8 (48 + (n : Int) / 10 % 10), .int .u8 (48 + (n : Int) % 10)] 5)) := fun W => by
    have e : (#[.int .u8 (48 + (n : Int) / 10 / 10 / 10 % 10), .int .u8 (48 + (n : Int) / 10 / 10 % 10), .int .u8 (48 + (n : Int) / 10 % 10), .int .u8 (48 + (n : Int) % 10)] : Array Value) = ((dig4 n).map eb).toArray := by
      have key : ∀ (k : Nat) (i : Int), k < 10 → i = (k : Int) → Value.int .u8 (48 + i) = eb (UInt8.ofNat (48 + k)) := fun k i hk hi => by
        unfold eb; rw [UInt8.toNat_ofNat', hi]; congr 1; omega
      unfold dig4
      rw [key (n / 1000) _ (by omega) (by omega), key (n / 100 % 10) _ (by omega) (by omega), key (n / 10 % 10) _ (by omega) (by omega), key (n % 10) _ (by omega) (by omega)]
      rfl
    have hr : Reads (W.alloc (.cells #[.int .u8 (48 + (n : Int) / 10 / 10 / 10 % 10), .int .u8 (48 + (n : Int) / 10 / 10 % 10), .int .u8 (48 + (n : Int) / 10 % 10), .int .u8 (48 + (n : Int) % 10)] 5)) (.slice (some ⟨W.heap.size, 0, none⟩) 4 4) (dig4 n) := by
      rw [e]
      exact Reads.of_own (e := 5) (base := W.heap.size) (own_litK 1 ((dig4 n).map eb) (by simp [dig4]) (by omega))
    rw [← hD]
    exact hr.str 27 9 5 Tryz.underlying27 Tryz.underlying5 Tryz.underlying9
  have HD := hid hD
  clear hD
  go_enter Tryz.func21, Tryz.ntmps21
  go_wp2_with (go_at_call 20; refine c.mono ?_; rintro e w' ⟨rfl, hc⟩)
  refine wp_loop_rounds 5 ?_
  rw [rounds_succ]
  go_wp2_with (fail)
  rw [rounds_succ]
  go_wp2_with (fail)
  rw [rounds_succ]
  go_wp2_with (fail)
  rw [rounds_succ]
  go_wp2_with (fail)
  rw [rounds_succ]
  go_wp2_with (fail)
  go_ret2
  refine ⟨?_, hc.trans (Chg.alloc _ _ _)⟩
  have e : bsV (genName S.data.toList n) = .string (S ++ ⟨#[46, 71]⟩ ++ D ++ ⟨#[86, 48, 48]⟩) := by
    unfold bsV genName
    congr 1
    apply str_inj
    rw [← HD.out]
    simp [ByteArray.data_append]
  rw [e]
  rfl

theorem Generation_any (S : ByteArray) (n : Int) (w : World) : Calls Tryz.prog 21 #[.string S, .int .i64 n] w fun e w' => e = .returned (.tuple #[bsV (genS S.data.toList n).1, .bool (genS S.data.toList n).2]) ∧ Chg [] w w' := by
  unfold genS
  by_cases h : genOk S.data.toList n = true
  · rw [if_pos h]
    unfold genOk at h
    simp only [Bool.and_eq_true, decide_eq_true_eq] at h
    obtain ⟨⟨⟨h1, h2⟩, h3⟩, h4⟩ := h
    obtain ⟨k, rfl⟩ := Int.eq_ofNat_of_zero_le (show 0 ≤ n by omega)
    exact Generation_good S k w (by omega) (by omega) (by rw [bs_len] at h2; exact h2) h1
  · rw [if_neg h]
    exact Generation_bad S n w (by simpa using h)

end Go.Proofs.YtldkmclfhjcicaaGreatDoor

/- number of layer 27. -/
namespace Go.Proofs.YtldkmclfhjcicaaGreatDoor
open Go.RowKit Go.Shelf
set_option linter.unusedVariables false
set_option linter.unusedSimpArgs false

def accN (t : Bs) : Nat → Nat
  | 0 => 0
  | k + 1 => 10 * accN t k + (bN t k - 48)
theorem accN_lt (t : Bs) : ∀ k, (∀ i < k, 48 ≤ bN t i ∧ bN t i ≤ 57) → accN t k < 10 ^ k
  | 0, _ => by simp [accN]
  | k + 1, h => by
    have ih := accN_lt t k (fun i hi => h i (by omega))
    have := h k (by omega)
    simp only [accN, Nat.pow_succ]; omega
def digK (t : Bs) (k : Nat) : Bool := (List.range k).all fun i => decide (48 ≤ bN t i) && decide (bN t i ≤ 57)
theorem digK_iff (t : Bs) (k : Nat) : digK t k = true ↔ ∀ i < k, 48 ≤ bN t i ∧ bN t i ≤ 57 := by
  unfold digK; rw [List.all_eq_true]; simp
def tail7 (t : Bs) : Nat := if t.length = 7 ∧ t.drop 4 = [86, 48, 48] ∧ digK t 4 = true then accN t 4 else 0
theorem numS_7 (base name : Bs) : numS base name = if (base ++ [46, 71]) <+: name then tail7 (name.drop (base.length + 2)) else 0 := by
  rw [numS_cut]
  split
  · generalize name.drop (base.length + 2) = t
    by_cases hl : t.length = 7
    · match t, hl with
      | [a, b, c, d, x, y, z], _ =>
        have e : tail7 [a, b, c, d, x, y, z] = if ([x, y, z] : Bs) = [86, 48, 48] ∧ digK [a, b, c, d, x, y, z] 4 = true then accN [a, b, c, d, x, y, z] 4 else 0 := by
          unfold tail7; simp
        rw [e]
        have hd : (digC a && digC b && digC c && digC d) = true ↔ digK [a, b, c, d, x, y, z] 4 = true := by
          rw [digK_iff]
          unfold digC
          simp only [Bool.and_eq_true, decide_eq_true_eq]
          constructor
          · rintro ⟨⟨⟨h0, h1⟩, h2⟩, h3⟩ i hi
            match i, hi with
            | 0, _ => exact h0
            | 1, _ => exact h1
            | 2, _ => exact h2
            | 3, _ => exact h3
          · intro h
            exact ⟨⟨⟨h 0 (by omega), h 1 (by omega)⟩, h 2 (by omega)⟩, h 3 (by omega)⟩
        have hv : accN [a, b, c, d, x, y, z] 4 = valD a b c d := by
          simp only [accN, valD, bN, List.getD_cons_zero, List.getD_cons_succ]
          omega
        show (if _ then _ else _) = _
        by_cases h : (digC a && digC b && digC c && digC d) = true ∧ x = 86 ∧ y = 48 ∧ z = 48
        · rw [if_pos h, if_pos ⟨by rw [h.2.1, h.2.2.1, h.2.2.2], hd.1 h.1⟩, hv]
        · rw [if_neg h, if_neg]
          rintro ⟨h1, h2⟩
          injection h1 with h3 h1
          injection h1 with h4 h1
          injection h1 with h5 _
          exact h ⟨hd.2 h2, h3, h4, h5⟩
    · unfold tail7
      rw [if_neg (fun h => hl h.1)]
      split
      · exact absurd rfl hl
      · rfl
  · rfl

set_option maxRecDepth 100000 in
set_option maxHeartbeats 1000000 in
theorem number_any (A N : ByteArray) (hA : A.size ≤ 1000000) (w : World) : Calls Tryz.prog 59 #[.string A, .string N] w fun e w' => e = .returned (.int .i64 (numS A.data.toList N.data.toList : Nat)) ∧ w = w' := by
  have hcut : ∀ (P : ByteArray), P.data.toList = A.data.toList ++ [46, 71] → ∀ W, Calls Tryz.prog 84 #[.string N, .string P] W fun e w' => e = .returned (.tuple #[.string ⟨(Lib.trimPrefix N.data.toList (A.data.toList ++ [46, 71])).toArray⟩, .bool (Lib.hasPrefix N.data.toList (A.data.toList ++ [46, 71]))]) ∧ W = w' := fun P hP W => by
    have h := Tryz.strings_CutPrefix N P W
    rw [hP] at h
    exact h.mono fun e w' ⟨a, b⟩ => ⟨a, b.symm⟩
  obtain ⟨R, hR⟩ : ∃ R, numS A.data.toList N.data.toList = R := ⟨_, rfl⟩
  rw [hR]
  rw [numS_7] at hR
  have hp : Lib.hasPrefix N.data.toList (A.data.toList ++ [46, 71]) = true ↔ (A.data.toList ++ [46, 71]) <+: N.data.toList := List.isPrefixOf_iff_prefix
  cases hb : Lib.hasPrefix N.data.toList (A.data.toList ++ [46, 71])
  · rw [if_neg (fun h => by rw [hp.2 h] at hb; cases hb)] at hR
    subst hR
    rw [hb] at hcut
    clear hb hp
    go_enter Tryz.func59, Tryz.ntmps59
    go_wp2_with (go_at_call 84; refine (hcut _ (by simp [ByteArray.data_append]) _).mono ?_; rintro e w' ⟨rfl, rfl⟩)
    go_ret
    exact ⟨rfl, rfl⟩
  · rw [if_pos (hp.1 hb)] at hR
    have ht : Lib.trimPrefix N.data.toList (A.data.toList ++ [46, 71]) = N.data.toList.drop (A.data.toList.length + 2) := by
      unfold Lib.trimPrefix; rw [if_pos hb]; simp
    rw [hb, ht] at hcut
    clear hb hp ht
    generalize N.data.toList.drop (A.data.toList.length + 2) = t at *
    obtain ⟨T, hT⟩ : ∃ T : ByteArray, (⟨t.toArray⟩ : ByteArray) = T := ⟨_, rfl⟩
    have hTd : T.data.toList = t := by rw [← hT]
    have hTs : T.size = t.length := by rw [← hT]; rfl
    rw [hT] at hcut
    clear hT
    by_cases hl : t.length = 7
    · have hT7 : T.size = 7 := hTs.trans hl
      obtain ⟨V, hV⟩ : ∃ V, T.extract 4 7 = V := ⟨_, rfl⟩
      have hVd : V.data.toList = t.drop 4 := by
        rw [← hV, ByteArray.data_extract, Array.toList_extract, hTd]
        simp only [List.extract_eq_take_drop]
        exact List.take_of_length_le (by simp; omega)
      have i3 : ∀ W, (Instr.slice 9 (.string T) (some (.int .i64 4)) none none).run Tryz.prog W = .ok (.string V) W := fun W => by
        rw [run_slice_string_l W _ _ Tryz.underlying9 .i64 _ (by omega) (by omega), hT7, ← hV]; rfl
      have hVt : V.toList = t.drop 4 := by rw [ByteArray.toList_eq, hVd]
      by_cases h3 : t.drop 4 = [86, 48, 48]
      · rw [h3] at hVt
        have i1 : ∀ k : Nat, k < 4 → ∀ W, (Instr.index 9 (.string T) (.int .i64 (k : Int))).run Tryz.prog W = .ok (.int .u8 (bN t k : Nat)) W := fun k hk W => by
          rw [run_index_string W _ _ _ _ Tryz.underlying9, dif_pos ⟨by omega, by omega⟩]
          rw [bN_get t k (by omega)]
          congr 4
          have h5 : T.data.toList[k]'(by rw [hTd]; omega) = t[k]'(by omega) := by congr 1
          rw [← h5]; rfl
        have HI := hid i1
        have HR : Hid (tail7 t = R) := hR
        have HL := hid hl
        have H3 := hid h3
        clear i1 hTd hTs hVd hV hR hl h3
        go_enter Tryz.func59, Tryz.ntmps59
        go_wp2_with (go_at_call 84; refine (hcut _ (by simp [ByteArray.data_append]) _).mono ?_; rintro e w' ⟨rfl, rfl⟩)
        go_loop [7, 28] (fun s7 s28 => ∃ k : Nat, k ≤ 4 ∧ s28 = .int .i64 k ∧ s7 = .int .i64 (accN t k : Nat) ∧ Hid (∀ i < k, 48 ≤ bN t i ∧ bN t i ≤ 57)) (fun _ i => 4 - (intOf i).toNat)
        case atStart => exact ⟨0, by omega, rfl, rfl, fun i hi => absurd hi (by omega)⟩
        case round =>
          obtain ⟨k, hk, rfl, rfl, hd⟩ := hrel
          have hacc := accN_lt t k hd.out
          have hp4 : 10 ^ k ≤ 10 ^ 4 := Nat.pow_le_pow_right (by decide) hk
          have HA := hid (show accN t (k + 1) = 10 * accN t k + (bN t k - 48) from rfl)
          have hac : accN t k < 10000 := by omega
          clear hacc hp4
          obtain ⟨a, ha⟩ : ∃ a, accN t k = a := ⟨_, rfl⟩
          rw [ha] at HA hac ⊢
          have HAe := hid ha
          clear ha
          by_cases hlt : k < 4
          · have i1 := HI.out k hlt
            have hlti : (k : Int) < 4 := by omega
            by_cases h1 : (bN t k : Int) < 48
            · obtain rfl : R = 0 := by
                rw [← HR.out]; unfold tail7; rw [if_neg]; rintro ⟨_, _, h⟩; have := (digK_iff t 4).1 h k hlt; omega
              clear HA
              generalize bN t k = c at *
              go_wp2
              go_ret
              exact ⟨rfl, rfl⟩
            · by_cases h2 : (57 : Int) < (bN t k : Int)
              · obtain rfl : R = 0 := by
                  rw [← HR.out]; unfold tail7; rw [if_neg]; rintro ⟨_, _, h⟩; have := (digK_iff t 4).1 h k hlt; omega
                clear HA
                generalize bN t k = c at *
                go_wp2
                go_ret
                exact ⟨rfl, rfl⟩
              · have hd2 : Hid (∀ i < k + 1, 48 ≤ bN t i ∧ bN t i ≤ 57) := fun i hi => by
                  rcases Nat.lt_or_ge i k with h | h
                  · exact hd.out i h
                  · obtain rfl : i = k := by omega
                    omega
                generalize bN t k = c at *
                go_wp2
                go_round
                case rel => exact ⟨k + 1, by omega, by go_num, by rw [HA.out]; go_num, hd2⟩
                case measure => simp [intOf]; omega
          · obtain rfl : k = 4 := by omega
            obtain rfl : R = accN t 4 := by
              rw [← HR.out]; unfold tail7; rw [if_pos ⟨HL.out, H3.out, (digK_iff t 4).2 hd.out⟩]
            clear HA
            go_wp2
            go_ret
            exact ⟨by rw [HAe.out]; rfl, rfl⟩
      · obtain rfl : R = 0 := by
          rw [← hR]; unfold tail7; rw [if_neg]; rintro ⟨_, h, _⟩; exact h3 h
        have hne : (V.toList == [86, 48, 48]) = false := by rw [hVt]; simpa using h3
        clear hR hTd hTs hVd hVt hV h3
        go_enter Tryz.func59, Tryz.ntmps59
        go_wp2_with (go_at_call 84; refine (hcut _ (by simp [ByteArray.data_append]) _).mono ?_; rintro e w' ⟨rfl, rfl⟩)
        go_ret
        exact ⟨rfl, rfl⟩
    · obtain rfl : R = 0 := by
        rw [← hR]; unfold tail7; rw [if_neg]; rintro ⟨h, _⟩; exact hl h
      have hne : ((T.size : Int) == 7) = false := by rw [beq_eq_false_iff_ne]; omega
      have hne' : ((T.size : Int) != 7) = true := by rw [bne_iff_ne]; omega
      have hne2 : (T.size != 7) = true := by rw [bne_iff_ne]; omega
      clear hR hTd hTs hl
      go_enter Tryz.func59, Tryz.ntmps59
      go_wp2_with (go_at_call 84; refine (hcut _ (by simp [ByteArray.data_append]) _).mono ?_; rintro e w' ⟨rfl, rfl⟩)
      go_ret
      exact ⟨rfl, rfl⟩

end Go.Proofs.YtldkmclfhjcicaaGreatDoor
