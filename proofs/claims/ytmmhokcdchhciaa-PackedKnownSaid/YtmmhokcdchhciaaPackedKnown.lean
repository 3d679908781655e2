/- PackedKnown: the signs, the limits and invalid arguments. -/
import Derived.Test.YtmmhokcdchhciaaWorks
import Derived.Test.YtmmhokcdchhciaaFlow
import Derived.Test.YtmmhokcdchhciaaArg
import Derived.Deep.DeepCutAuto
import Derived.KernelRfl
import Derived.Deep.QuietTactic
import Derived.BigQuiet
import Derived.Deep.RegionWith
import Derived.Deep.RegionHeld3
import Derived.StillTailTactics
namespace Go.Proofs.Ytmmhokcdchhciaa
open Go.RowKit Go.Shelf
set_option linter.unusedVariables false

/-- what the operations of the statement on sizes yield -/
def FK (i : Nat) (v : Value) (w : World) : Prop :=
  if i ∈ [0, 3, 7, 11, 15, 19, 24] then ∃ a c, v = .slice a 0 c else
  if i ∈ [2, 6, 14, 18, 22] then Reads w v [1] else
  if i ∈ [10, 23] then Reads w v (List.replicate 17 0) else
  if i ∈ [27, 28] then v = .bool true else v = .int .i64 0

theorem FK.keep (i : Nat) (v : Value) (w w' : World) (h : FK i v w) (hc : Chg [] w w') : FK i v w' := by
  unfold FK at *
  split at h
  · rename_i h1; rw [if_pos h1]; exact h
  · rename_i h1
    rw [if_neg h1]
    split at h
    · rename_i h2; rw [if_pos h2]; exact h.keep hc (by simp)
    · rename_i h2
      rw [if_neg h2]
      split at h
      · rename_i h3; rw [if_pos h3]; exact h.keep hc (by simp)
      · rename_i h3; rw [if_neg h3]; exact h

/-- what the operations of the test of one sign yield, at eleven -/
def V5 (j : Nat) : Nat → Value
  | 1 => .int .u8 j
  | 8 => .int .u8 j
  | 3 => .bool false
  | 4 => .bool false
  | 7 => .agg #[.bool true, .string ⟨#[55]⟩]
  | 11 => undef
  | 12 => undef
  | 14 => .agg #[.bool true, .string ⟨#[55]⟩]
  | 15 => .bool false
  | 16 => .bool false
  | 17 => .bool false
  | _ => .bool true
theorem sign_dec : ∀ j : Nat, j < 16 → decS [UInt8.ofNat (112 + j)] = if j ≤ 9 then ((false, []), false) else ((j == 11 || j == 13, [55]), true) := by
  intro j hj
  have h : ∀ k : Fin 16, decS [UInt8.ofNat (112 + k.val)] = if k.val ≤ 9 then ((false, []), false) else ((k.val == 11 || k.val == 13, [55]), true) := by decide +kernel
  exact h ⟨j, hj⟩
theorem lit70 (w : World) (j : Nat) (hj : j < 16) : Reads (w.alloc (.cells #[.int .u8 (112 + (j : Int))] 5)) (.slice (some ⟨w.heap.size, 0, none⟩) 1 1) [UInt8.ofNat (112 + j)] := by
  refine Reads.new _ rfl ?_ rfl (by decide)
  simp only [List.map_cons, List.map_nil, eb]
  rw [toNat_ofNat (by omega)]
  rfl
theorem valid_is (b : Bool) (n : Bool) (s : ByteArray) (w : World) (hs : s.size ≤ maxLen) (h : validS s.data.toList = b) :
    Calls Try.prog 29 #[.agg #[.bool n, .string s]] w fun e w' => e = .returned (.bool b) ∧ Chg [] w w' := by
  subst h; exact valid_any n s hs w

set_option maxRecDepth 100000 in
set_option maxHeartbeats 4000000 in
theorem pknown_in (w : World) :
    Calls Try.prog 10 #[] w fun e w' => e = .returned (.bool true) ∧ Chg [] w w' := by
  go_enter Try.func10, Try.ntmps10
  go_wp2_with (fail)
  go_loopw [1] (fun i wr => ∃ j : Nat, j ≤ 16 ∧ i = .int .u8 j ∧ Chg [] w wr) (fun i _ => 16 - (intOf i).toNat)
  case atStart => exact ⟨0, by omega, rfl, Chg.refl _ _⟩
  case round =>
    obtain ⟨j, hj, rfl, hc⟩ := hrel
    by_cases hlt : j < 16
    · have HD := hid (sign_dec j hlt)
      have HL := hid (lit70 wr j hlt)
      have HC := hid hc
      clear hc
      go_wp2_with (fail)
      refine Calls.mono (Decode_any _ _ _ HL.out) ?_
      rw [HD.out]
      rintro e w1 ⟨rfl, hc⟩
      have HC1 := hid ((HC.out.trans (Chg.alloc _ _ _)).trans hc)
      clear hc HL
      by_cases h9 : j ≤ 9
      · rw [if_pos h9]
        have h9' : ¬ (9 : Int) < (j : Int) := by omega
        have hb : decide ((9 : Int) < (j : Int)) = false := decide_eq_false h9'
        clear h9 h9'
        go_wp2_with (fail)
        obtain ⟨c0, c1⟩ := two_cells (al_new (w := w1) (o := .cells #[.bool false, .string ⟨#[]⟩] 26) rfl)
        have HC2 := hid (HC1.out.trans (Chg.alloc _ w1 (.cells #[.bool false, .string ⟨#[]⟩] 26)))
        generalize w1.alloc (.cells #[.bool false, .string ⟨#[]⟩] 26) = W at *
        go_quiet (fail)
        go_wp2_with (fail)
        go_roundw
        case rel => exact ⟨j + 1, by omega, by go_num, HC2.out.drewN _⟩
        case measure => simp [intOf]; omega
      · rw [if_neg h9]
        have h9' : (9 : Int) < (j : Int) := by omega
        have hb : decide ((9 : Int) < (j : Int)) = true := decide_eq_true h9'
        by_cases h11 : j = 11
        · have e1 : ((j : Int) == 11) = true := beq_iff_eq.2 (by omega)
          rw [show (j == 11 || j == 13) = true from by rw [h11]; rfl]
          clear h9 h11
          obtain ⟨c0, c1⟩ := two_cells (al_new (w := w1) (o := .cells #[.bool true, .string ⟨#[55]⟩] 26) rfl)
          go_wp2_with (fail)
          have HC2 := hid (HC1.out.trans (Chg.alloc _ w1 (.cells #[.bool true, .string ⟨#[55]⟩] 26)))
          generalize w1.alloc (.cells #[.bool true, .string ⟨#[55]⟩] 26) = W at *
          refine wp_region_flowG (by kernel_rfl) (fun i v _ => v = V5 j i) (fun X => Chg [] W X) (fun X Y => Chg [] X Y) (fun _ _ _ _ h _ => h) (fun _ => Chg.refl _ _) rfl (by kernel_rfl) (Chg.drew [] _) ?hstep ?hend
          case hstep =>
            iterate 18 (refine forall_lt_succ ?_ ?_)
            · exact forall_lt_zero
            · intro o ho a X hg hk hd; injection (show some _ = some o from ho) with ho; subst ho
              have g3 := hk.get (ds := [22, 23, 24, 25, 26, 27, 28, 29, 30, 31, 32, 33, 34, 35, 36, 37, 38, 39]) (by kernel_rfl) 3 (by decide)
              simp at g3
              clear hd hk
              simp [Region.wanted, Oper.wp, execOp, go_sem, V5, g3]
              exact ⟨_, rfl, rfl, Chg.refl _ _, hg⟩
            · intro o ho a X hg hk hd; injection (show some _ = some o from ho) with ho; subst ho
              have g1 := hk.get (ds := [22, 23, 24, 25, 26, 27, 28, 29, 30, 31, 32, 33, 34, 35, 36, 37, 38, 39]) (by kernel_rfl) 1 (by decide)
              simp at g1
              clear hd hk
              simp [Region.wanted, Oper.wp, execOp, go_sem, V5, g1]
              exact ⟨_, rfl, rfl, Chg.refl _ _, hg⟩
            · intro o ho a X hg hk hd; injection (show some _ = some o from ho) with ho; subst ho
              have f1 : a.tmps.getD 23 undef = V5 j 1 := hd ⟨1, .data⟩ (by simp) rfl; rw [Array.getD_eq_getD_getElem?] at f1
              simp [V5] at f1
              clear hd hk
              simp [Region.wanted, Oper.wp, execOp, go_sem, V5, f1]
              exact ⟨_, rfl, by rw [hb], Chg.refl _ _, hg⟩
            · intro o ho a X hg hk hd; injection (show some _ = some o from ho) with ho; subst ho
              have f0 : a.tmps.getD 22 undef = V5 j 0 := hd ⟨0, .data⟩ (by simp) rfl; rw [Array.getD_eq_getD_getElem?] at f0
              simp [V5] at f0
              have f2 : a.tmps.getD 24 undef = V5 j 2 := hd ⟨2, .data⟩ (by simp) rfl; rw [Array.getD_eq_getD_getElem?] at f2
              simp [V5] at f2
              clear hd hk
              simp [Region.wanted, Oper.wp, execOp, go_sem, V5, f0, f2]
              exact ⟨_, rfl, rfl, Chg.refl _ _, hg⟩
            · intro o ho a X hg hk hd; injection (show some _ = some o from ho) with ho; subst ho
              have f3 : a.tmps.getD 25 undef = V5 j 3 := hd ⟨3, .data⟩ (by simp) rfl; rw [Array.getD_eq_getD_getElem?] at f3
              simp [V5] at f3
              clear hd hk
              simp [Region.wanted, Oper.wp, execOp, go_sem, V5, f3]
              exact ⟨_, rfl, rfl, Chg.refl _ _, hg⟩
            · intro o ho a X hg hk hd; injection (show some _ = some o from ho) with ho; subst ho
              have f4 : a.tmps.getD 26 undef = V5 j 4 := hd ⟨4, .guard⟩ (by simp) rfl; rw [Array.getD_eq_getD_getElem?] at f4
              simp [V5] at f4
              replace f4 := get_some f4
              have g3 := hk.get (ds := [22, 23, 24, 25, 26, 27, 28, 29, 30, 31, 32, 33, 34, 35, 36, 37, 38, 39]) (by kernel_rfl) 3 (by decide)
              simp at g3
              clear hd hk
              simp [Region.wanted, yielded, Oper.wp, execOp, go_sem, V5, f4, g3]
              exact ⟨_, rfl, rfl, Chg.refl _ _, hg⟩
            · intro o ho a X hg hk hd; injection (show some _ = some o from ho) with ho; subst ho
              have f4 : a.tmps.getD 26 undef = V5 j 4 := hd ⟨4, .guard⟩ (by simp) rfl; rw [Array.getD_eq_getD_getElem?] at f4
              simp [V5] at f4
              replace f4 := get_some f4
              have f5 : a.tmps.getD 27 undef = V5 j 5 := hd ⟨5, .data⟩ (by simp) rfl; rw [Array.getD_eq_getD_getElem?] at f5
              simp [V5] at f5
              clear hd hk
              simp [Region.wanted, yielded, Oper.wp, execOp, go_sem, V5, f4, f5]
              exact ⟨_, rfl, rfl, Chg.refl _ _, hg⟩
            · intro o ho a X hg hk hd; injection (show some _ = some o from ho) with ho; subst ho
              have f6 : a.tmps.getD 28 undef = V5 j 6 := hd ⟨6, .guard⟩ (by simp) rfl; rw [Array.getD_eq_getD_getElem?] at f6
              simp [V5] at f6
              replace f6 := get_some f6
              have g2 := hk.get (ds := [22, 23, 24, 25, 26, 27, 28, 29, 30, 31, 32, 33, 34, 35, 36, 37, 38, 39]) (by kernel_rfl) 2 (by decide)
              simp at g2
              clear hd hk
              have d0 := hg.cell c0 (by simp)
              have d1 := hg.cell c1 (by simp)
              simp [Region.wanted, yielded, Oper.wp, execOp, go_sem, V5, f6, g2, d0, d1]
              exact ⟨_, rfl, rfl, Chg.refl _ _, hg⟩
            · intro o ho a X hg hk hd; injection (show some _ = some o from ho) with ho; subst ho
              have f6 : a.tmps.getD 28 undef = V5 j 6 := hd ⟨6, .guard⟩ (by simp) rfl; rw [Array.getD_eq_getD_getElem?] at f6
              simp [V5] at f6
              replace f6 := get_some f6
              have g1 := hk.get (ds := [22, 23, 24, 25, 26, 27, 28, 29, 30, 31, 32, 33, 34, 35, 36, 37, 38, 39]) (by kernel_rfl) 1 (by decide)
              simp at g1
              clear hd hk
              simp [Region.wanted, yielded, Oper.wp, execOp, go_sem, V5, f6, g1]
              exact ⟨_, rfl, rfl, Chg.refl _ _, hg⟩
            · intro o ho a X hg hk hd; injection (show some _ = some o from ho) with ho; subst ho
              have f6 : a.tmps.getD 28 undef = V5 j 6 := hd ⟨6, .guard⟩ (by simp) rfl; rw [Array.getD_eq_getD_getElem?] at f6
              simp [V5] at f6
              replace f6 := get_some f6
              have f8 : a.tmps.getD 30 undef = V5 j 8 := hd ⟨8, .data⟩ (by simp) rfl; rw [Array.getD_eq_getD_getElem?] at f8
              simp [V5] at f8
              clear hd hk
              simp [Region.wanted, yielded, Oper.wp, execOp, go_sem, V5, f6, f8]
              exact ⟨_, rfl, by rw [e1], Chg.refl _ _, hg⟩
            · intro o ho a X hg hk hd; injection (show some _ = some o from ho) with ho; subst ho
              have f6 : a.tmps.getD 28 undef = V5 j 6 := hd ⟨6, .guard⟩ (by simp) rfl; rw [Array.getD_eq_getD_getElem?] at f6
              simp [V5] at f6
              replace f6 := get_some f6
              have f9 : a.tmps.getD 31 undef = V5 j 9 := hd ⟨9, .data⟩ (by simp) rfl; rw [Array.getD_eq_getD_getElem?] at f9
              simp [V5] at f9
              clear hd hk
              simp [Region.wanted, yielded, Oper.wp, execOp, go_sem, V5, f6, f9]
              exact ⟨_, rfl, rfl, Chg.refl _ _, hg⟩
            · intro o ho a X hg hk hd; injection (show some _ = some o from ho) with ho; subst ho
              have f10 : a.tmps.getD 32 undef = V5 j 10 := hd ⟨10, .guard⟩ (by simp) rfl; rw [Array.getD_eq_getD_getElem?] at f10
              simp [V5] at f10
              replace f10 := get_some f10
              clear hd hk
              simp [Region.wanted, yielded, V5, f10]
            · intro o ho a X hg hk hd; injection (show some _ = some o from ho) with ho; subst ho
              have f10 : a.tmps.getD 32 undef = V5 j 10 := hd ⟨10, .guard⟩ (by simp) rfl; rw [Array.getD_eq_getD_getElem?] at f10
              simp [V5] at f10
              replace f10 := get_some f10
              clear hd hk
              simp [Region.wanted, yielded, V5, f10]
            · intro o ho a X hg hk hd; injection (show some _ = some o from ho) with ho; subst ho
              have f6 : a.tmps.getD 28 undef = V5 j 6 := hd ⟨6, .guard⟩ (by simp) rfl; rw [Array.getD_eq_getD_getElem?] at f6
              simp [V5] at f6
              replace f6 := get_some f6
              have f10 : a.tmps.getD 32 undef = V5 j 10 := hd ⟨10, .data⟩ (by simp) rfl; rw [Array.getD_eq_getD_getElem?] at f10
              simp [V5] at f10
              clear hd hk
              simp [Region.wanted, yielded, Oper.wp, execOp, go_sem, V5, f6, f10]
              exact ⟨_, rfl, rfl, Chg.refl _ _, hg⟩
            · intro o ho a X hg hk hd; injection (show some _ = some o from ho) with ho; subst ho
              have f6 : a.tmps.getD 28 undef = V5 j 6 := hd ⟨6, .guard⟩ (by simp) rfl; rw [Array.getD_eq_getD_getElem?] at f6
              simp [V5] at f6
              replace f6 := get_some f6
              have f13 : a.tmps.getD 35 undef = V5 j 13 := hd ⟨13, .data⟩ (by simp) rfl; rw [Array.getD_eq_getD_getElem?] at f13
              simp [V5] at f13
              clear hd hk
              simp [Region.wanted, yielded, Oper.wp, execOp, go_sem, V5, f6, f13]
              refine (dec_any _ _ _).mono ?_
              rintro e w3 ⟨rfl, hc⟩
              exact ⟨_, rfl, rfl, hc, hg.trans hc⟩
            · intro o ho a X hg hk hd; injection (show some _ = some o from ho) with ho; subst ho
              have f6 : a.tmps.getD 28 undef = V5 j 6 := hd ⟨6, .guard⟩ (by simp) rfl; rw [Array.getD_eq_getD_getElem?] at f6
              simp [V5] at f6
              replace f6 := get_some f6
              have f7 : a.tmps.getD 29 undef = V5 j 7 := hd ⟨7, .data⟩ (by simp) rfl; rw [Array.getD_eq_getD_getElem?] at f7
              simp [V5] at f7
              have f14 : a.tmps.getD 36 undef = V5 j 14 := hd ⟨14, .data⟩ (by simp) rfl; rw [Array.getD_eq_getD_getElem?] at f14
              simp [V5] at f14
              clear hd hk
              simp [Region.wanted, yielded, Oper.wp, execOp, go_sem, V5, f6, f7, f14]
              exact ⟨_, rfl, rfl, Chg.refl _ _, hg⟩
            · intro o ho a X hg hk hd; injection (show some _ = some o from ho) with ho; subst ho
              have f4 : a.tmps.getD 26 undef = V5 j 4 := hd ⟨4, .guard⟩ (by simp) rfl; rw [Array.getD_eq_getD_getElem?] at f4
              simp [V5] at f4
              replace f4 := get_some f4
              have f6 : a.tmps.getD 28 undef = V5 j 6 := hd ⟨6, .data⟩ (by simp) rfl; rw [Array.getD_eq_getD_getElem?] at f6
              simp [V5] at f6
              have f15 : a.tmps.getD 37 undef = V5 j 15 := hd ⟨15, .data⟩ (by simp) rfl; rw [Array.getD_eq_getD_getElem?] at f15
              simp [V5] at f15
              clear hd hk
              simp [Region.wanted, yielded, Oper.wp, execOp, go_sem, V5, f4, f6, f15]
              exact ⟨_, rfl, rfl, Chg.refl _ _, hg⟩
            · intro o ho a X hg hk hd; injection (show some _ = some o from ho) with ho; subst ho
              have f4 : a.tmps.getD 26 undef = V5 j 4 := hd ⟨4, .data⟩ (by simp) rfl; rw [Array.getD_eq_getD_getElem?] at f4
              simp [V5] at f4
              have f16 : a.tmps.getD 38 undef = V5 j 16 := hd ⟨16, .data⟩ (by simp) rfl; rw [Array.getD_eq_getD_getElem?] at f16
              simp [V5] at f16
              clear hd hk
              simp [Region.wanted, Oper.wp, execOp, go_sem, V5, f4, f16]
              exact ⟨_, rfl, rfl, Chg.refl _ _, hg⟩
          case hend =>
            intro a X hk hf hg
            have f17 : a.tmps.getD 39 undef = V5 j 17 := hf 17 (by decide)
            rw [Array.getD_eq_getD_getElem?] at f17
            simp [V5] at f17
            have f17' : a.tmps.getD 39 undef = .bool false := by rw [Array.getD_eq_getD_getElem?]; exact f17
            have ha := hk.act [22, 23, 24, 25, 26, 27, 28, 29, 30, 31, 32, 33, 34, 35, 36, 37, 38, 39] (by kernel_rfl)
            rw [ha]
            clear hf hk ha
            simp only [List.foldl_cons, List.foldl_nil, f17', List.setIfInBounds_toArray, List.set_cons_zero, List.set_cons_succ]
            have HC3 := hid (HC2.out.trans hg)
            clear hg f17 f17'
            go_wp2_with (fail)
            go_roundw
            case rel => exact ⟨j + 1, by omega, by go_num, HC3.out⟩
            case measure => simp [intOf]; omega
        · by_cases h13 : j = 13
          · have e1 : ((j : Int) == 11) = false := beq_eq_false_iff_ne.2 (by omega)
            have e2 : ((j : Int) == 13) = true := beq_iff_eq.2 (by omega)
            rw [show (j == 11 || j == 13) = true from by rw [h13]; rfl]
            clear h9 h11 h13
            obtain ⟨c0, c1⟩ := two_cells (al_new (w := w1) (o := .cells #[.bool true, .string ⟨#[55]⟩] 26) rfl)
            go_wp2_with (fail)
            have HC2 := hid (HC1.out.trans (Chg.alloc _ w1 (.cells #[.bool true, .string ⟨#[55]⟩] 26)))
            generalize w1.alloc (.cells #[.bool true, .string ⟨#[55]⟩] 26) = W at *
            go_region_held3 (fun w' => w'.cell? ⟨w1.heap.size, 0, none⟩ = some (.bool true) ∧ w'.cell? ⟨w1.heap.size, 1, none⟩ = some (.string ⟨#[55]⟩)) (first | go_keep | (go_split_ands; refine ⟨?_, ?_⟩ <;> exact hc'.cell (by assumption) (by simp))) (first | (go_at_call 28; refine (dec_any _ _ _).mono ?_; rintro e w2 ⟨rfl, hc'⟩; have HC3 := hid ((HC2.out.trans (Chg.drew _ _)).trans hc')))
            all_goals go_wp2_with (fail)
            all_goals go_roundw
            all_goals first | (case rel => exact ⟨j + 1, by omega, by go_num, HC3.out⟩) | (case measure => simp [intOf]; omega)
          · have e1 : ((j : Int) == 11) = false := beq_eq_false_iff_ne.2 (by omega)
            have e2 : ((j : Int) == 13) = false := beq_eq_false_iff_ne.2 (by omega)
            rw [show (j == 11 || j == 13) = false from by rw [beq_eq_false_iff_ne.2 h11, beq_eq_false_iff_ne.2 h13]; rfl]
            clear h9 h11 h13
            obtain ⟨c0, c1⟩ := two_cells (al_new (w := w1) (o := .cells #[.bool false, .string ⟨#[55]⟩] 26) rfl)
            go_wp2_with (fail)
            have HC2 := hid (HC1.out.trans (Chg.alloc _ w1 (.cells #[.bool false, .string ⟨#[55]⟩] 26)))
            generalize w1.alloc (.cells #[.bool false, .string ⟨#[55]⟩] 26) = W at *
            go_region_held3 (fun w' => w'.cell? ⟨w1.heap.size, 0, none⟩ = some (.bool false) ∧ w'.cell? ⟨w1.heap.size, 1, none⟩ = some (.string ⟨#[55]⟩)) (first | go_keep | (go_split_ands; refine ⟨?_, ?_⟩ <;> exact hc'.cell (by assumption) (by simp))) (first | (go_at_call 28; refine (dec_any _ _ _).mono ?_; rintro e w2 ⟨rfl, hc'⟩; have HC3 := hid ((HC2.out.trans (Chg.drew _ _)).trans hc')))
            all_goals go_wp2_with (fail)
            all_goals go_roundw
            all_goals first | (case rel => exact ⟨j + 1, by omega, by go_num, HC3.out⟩) | (case measure => simp [intOf]; omega)
    · obtain rfl : j = 16 := by omega
      have HC := hid hc
      clear hc
      go_wp2_with (go_at_call 28; refine (dec_any _ _ _).mono ?_; rintro e w1 ⟨rfl, hc⟩; have HC1 := hid (HC.out.trans hc); clear hc)
      refine Calls.mono (Encode_any _ false ⟨#[49, 50, 51, 52, 53, 54, 55, 56, 57, 48, 49, 50, 51, 52, 53, 54, 55, 56, 57, 48, 49, 50, 51, 52, 53, 54, 55, 56, 57, 48, 49]⟩ (by decide +kernel) 16) ?_
      rw [show encS false (⟨#[49, 50, 51, 52, 53, 54, 55, 56, 57, 48, 49, 50, 51, 52, 53, 54, 55, 56, 57, 48, 49, 50, 51, 52, 53, 54, 55, 56, 57, 48, 49]⟩ : ByteArray).data.toList 16 = ([18, 52, 86, 120, 144, 18, 52, 86, 120, 144, 18, 52, 86, 120, 144, 28], false) from by decide +kernel]
      rintro e w2 ⟨u, rfl, ho, hc⟩
      have HU := hid (Reads.of_own ho)
      have HC2 := hid (HC1.out.trans hc)
      clear hc ho
      go_upto_region 10 with (first
        | (go_at_call 28; refine (dec_any _ _ _).mono ?_; rintro e w3 ⟨rfl, hc⟩; have HU := hid (HU.out.keep hc (by simp)); have HC2 := hid (HC2.out.trans hc); clear hc)
        | (go_at_call 29; refine (valid_is true _ _ _ (by decide +kernel) (by decide +kernel)).mono ?_; rintro e w3 ⟨rfl, hc⟩; have HU := hid (HU.out.keep hc (by simp)); have HC2 := hid (HC2.out.trans hc); clear hc)
        | (go_at_call 29; refine (valid_is false _ _ _ (by decide +kernel) (by decide +kernel)).mono ?_; rintro e w3 ⟨rfl, hc⟩; have HU := hid (HU.out.keep hc (by simp)); have HC2 := hid (HC2.out.trans hc); clear hc))
      refine wp_region_flowB (by kernel_rfl) FK (fun W => Chg [] w3 W) (fun W W' => Chg [] W W') FK.keep (fun _ => Chg.refl _ _) rfl (by kernel_rfl) (by kernel_rfl) (Chg.drew [] _) ?hstep ?hend
      case hstep =>
          clear HU HC2
          iterate 29 (refine forall_lt_succ ?_ ?_)
          · exact forall_lt_zero
          · intro o ho a W hg hk hd; injection (show some _ = some o from ho) with ho; subst ho
            clear hd hk
            simp [Oper.wp, execOp, go_sem]
            refine Calls.mono (Pack_any _ _ [] 1 (Reads.nil _)) ?_
            rintro e w4 ⟨u, rfl, ho, hc⟩
            refine ⟨_, rfl, ?_, hc, hg.trans hc⟩
            have hs := (Reads.of_own ho).shape (show (packS [] 1).length = 0 from by decide +kernel)
            simpa [FK] using hs
          · intro o ho a W hg hk hd; injection (show some _ = some o from ho) with ho; subst ho
            have f0 : FK 0 (a.tmps.getD 85 undef) W := hd ⟨0, .data⟩ (by simp) rfl
            obtain ⟨x0, c0, f0⟩ : ∃ x c, a.tmps[85]?.getD undef = .slice x 0 c := by simpa [FK] using f0
            clear hd hk
            simp [Oper.wp, execOp, go_sem, f0]
            exact ⟨_, rfl, (by first | (simp [FK]; done) | (simp [FK]; rfl)), Chg.refl _ _, hg⟩
          · intro o ho a W hg hk hd; injection (show some _ = some o from ho) with ho; subst ho
            clear hd hk
            simp [Oper.wp, execOp, go_sem]
            refine ⟨_, rfl, ?_, Chg.alloc _ _ _, hg.trans (Chg.alloc _ _ _)⟩
            have hr := Reads.new (w := W) (e := 5) (k := W.heap.size) (cs := #[.int .u8 1]) (n := 1) [1] rfl rfl rfl (by decide)
            simpa [FK] using hr
          · intro o ho a W hg hk hd; injection (show some _ = some o from ho) with ho; subst ho
            have f2 : FK 2 (a.tmps.getD 87 undef) W := hd ⟨2, .data⟩ (by simp) rfl
            replace f2 : Reads W (a.tmps[87]?.getD undef) [1] := by simpa [FK] using f2
            clear hd hk
            simp [Oper.wp, execOp, go_sem]
            refine Calls.mono (Pack_any _ _ [1] 0 f2) ?_
            rintro e w4 ⟨u, rfl, ho, hc⟩
            refine ⟨_, rfl, ?_, hc, hg.trans hc⟩
            have hs := (Reads.of_own ho).shape (show (packS [1] 0).length = 0 from by decide +kernel)
            simpa [FK] using hs
          · intro o ho a W hg hk hd; injection (show some _ = some o from ho) with ho; subst ho
            have f3 : FK 3 (a.tmps.getD 88 undef) W := hd ⟨3, .data⟩ (by simp) rfl
            obtain ⟨x3, c3, f3⟩ : ∃ x c, a.tmps[88]?.getD undef = .slice x 0 c := by simpa [FK] using f3
            clear hd hk
            simp [Oper.wp, execOp, go_sem, f3]
            exact ⟨_, rfl, (by first | (simp [FK]; done) | (simp [FK]; rfl)), Chg.refl _ _, hg⟩
          · intro o ho a W hg hk hd; injection (show some _ = some o from ho) with ho; subst ho
            have f1 : FK 1 (a.tmps.getD 86 undef) W := hd ⟨1, .data⟩ (by simp) rfl
            replace f1 : a.tmps[86]?.getD undef = .int .i64 0 := by simpa [FK] using f1
            have f4 : FK 4 (a.tmps.getD 89 undef) W := hd ⟨4, .data⟩ (by simp) rfl
            replace f4 : a.tmps[89]?.getD undef = .int .i64 0 := by simpa [FK] using f4
            clear hd hk
            simp [Oper.wp, execOp, go_sem, f1, f4]
            exact ⟨_, rfl, (by first | (simp [FK]; done) | (simp [FK]; rfl)), Chg.refl _ _, hg⟩
          · intro o ho a W hg hk hd; injection (show some _ = some o from ho) with ho; subst ho
            clear hd hk
            simp [Oper.wp, execOp, go_sem]
            refine ⟨_, rfl, ?_, Chg.alloc _ _ _, hg.trans (Chg.alloc _ _ _)⟩
            have hr := Reads.new (w := W) (e := 5) (k := W.heap.size) (cs := #[.int .u8 1]) (n := 1) [1] rfl rfl rfl (by decide)
            simpa [FK] using hr
          · intro o ho a W hg hk hd; injection (show some _ = some o from ho) with ho; subst ho
            have f6 : FK 6 (a.tmps.getD 91 undef) W := hd ⟨6, .data⟩ (by simp) rfl
            replace f6 : Reads W (a.tmps[91]?.getD undef) [1] := by simpa [FK] using f6
            clear hd hk
            simp [Oper.wp, execOp, go_sem]
            refine Calls.mono (Pack_any _ _ [1] 17 f6) ?_
            rintro e w4 ⟨u, rfl, ho, hc⟩
            refine ⟨_, rfl, ?_, hc, hg.trans hc⟩
            have hs := (Reads.of_own ho).shape (show (packS [1] 17).length = 0 from by decide +kernel)
            simpa [FK] using hs
          · intro o ho a W hg hk hd; injection (show some _ = some o from ho) with ho; subst ho
            have f7 : FK 7 (a.tmps.getD 92 undef) W := hd ⟨7, .data⟩ (by simp) rfl
            obtain ⟨x7, c7, f7⟩ : ∃ x c, a.tmps[92]?.getD undef = .slice x 0 c := by simpa [FK] using f7
            clear hd hk
            simp [Oper.wp, execOp, go_sem, f7]
            exact ⟨_, rfl, (by first | (simp [FK]; done) | (simp [FK]; rfl)), Chg.refl _ _, hg⟩
          · intro o ho a W hg hk hd; injection (show some _ = some o from ho) with ho; subst ho
            have f5 : FK 5 (a.tmps.getD 90 undef) W := hd ⟨5, .data⟩ (by simp) rfl
            replace f5 : a.tmps[90]?.getD undef = .int .i64 0 := by simpa [FK] using f5
            have f8 : FK 8 (a.tmps.getD 93 undef) W := hd ⟨8, .data⟩ (by simp) rfl
            replace f8 : a.tmps[93]?.getD undef = .int .i64 0 := by simpa [FK] using f8
            clear hd hk
            simp [Oper.wp, execOp, go_sem, f5, f8]
            exact ⟨_, rfl, (by first | (simp [FK]; done) | (simp [FK]; rfl)), Chg.refl _ _, hg⟩
          · intro o ho a W hg hk hd; injection (show some _ = some o from ho) with ho; subst ho
            clear hd hk
            have hmk : (Instr.makeSlice 22 (.int .i64 17) (.int .i64 17)).run Try.prog W = .ok (.slice (some ⟨W.heap.size, 0, none⟩) 17 17) (W.alloc (.cells (zrow 17) 5)) := mk_bytes (P := Try.prog) 22 5 Try.underlying22 info_u8 17 (by omega) W
            simp [Oper.wp, execOp, go_sem, hmk]
            refine ⟨_, rfl, ?_, Chg.alloc _ _ _, hg.trans (Chg.alloc _ _ _)⟩
            have hr := Reads.new (w := W) (e := 5) (k := W.heap.size) (cs := zrow 17) (n := 17) (List.replicate 17 0) rfl (zrow_eq 17) rfl (by decide)
            simpa [FK] using hr
          · intro o ho a W hg hk hd; injection (show some _ = some o from ho) with ho; subst ho
            have f10 : FK 10 (a.tmps.getD 95 undef) W := hd ⟨10, .data⟩ (by simp) rfl
            replace f10 : Reads W (a.tmps[95]?.getD undef) (List.replicate 17 0) := by simpa [FK] using f10
            clear hd hk
            simp [Oper.wp, execOp, go_sem]
            refine Calls.mono (Unpack_any _ _ (List.replicate 17 0) 1 f10) ?_
            rintro e w4 ⟨u, rfl, ho, hc⟩
            refine ⟨_, rfl, ?_, hc, hg.trans hc⟩
            have hs := (Reads.of_own ho).shape (show (unpackS (List.replicate 17 0) 1).length = 0 from by decide +kernel)
            simpa [FK] using hs
          · intro o ho a W hg hk hd; injection (show some _ = some o from ho) with ho; subst ho
            have f11 : FK 11 (a.tmps.getD 96 undef) W := hd ⟨11, .data⟩ (by simp) rfl
            obtain ⟨x11, c11, f11⟩ : ∃ x c, a.tmps[96]?.getD undef = .slice x 0 c := by simpa [FK] using f11
            clear hd hk
            simp [Oper.wp, execOp, go_sem, f11]
            exact ⟨_, rfl, (by first | (simp [FK]; done) | (simp [FK]; rfl)), Chg.refl _ _, hg⟩
          · intro o ho a W hg hk hd; injection (show some _ = some o from ho) with ho; subst ho
            have f9 : FK 9 (a.tmps.getD 94 undef) W := hd ⟨9, .data⟩ (by simp) rfl
            replace f9 : a.tmps[94]?.getD undef = .int .i64 0 := by simpa [FK] using f9
            have f12 : FK 12 (a.tmps.getD 97 undef) W := hd ⟨12, .data⟩ (by simp) rfl
            replace f12 : a.tmps[97]?.getD undef = .int .i64 0 := by simpa [FK] using f12
            clear hd hk
            simp [Oper.wp, execOp, go_sem, f9, f12]
            exact ⟨_, rfl, (by first | (simp [FK]; done) | (simp [FK]; rfl)), Chg.refl _ _, hg⟩
          · intro o ho a W hg hk hd; injection (show some _ = some o from ho) with ho; subst ho
            clear hd hk
            simp [Oper.wp, execOp, go_sem]
            refine ⟨_, rfl, ?_, Chg.alloc _ _ _, hg.trans (Chg.alloc _ _ _)⟩
            have hr := Reads.new (w := W) (e := 5) (k := W.heap.size) (cs := #[.int .u8 1]) (n := 1) [1] rfl rfl rfl (by decide)
            simpa [FK] using hr
          · intro o ho a W hg hk hd; injection (show some _ = some o from ho) with ho; subst ho
            have f14 : FK 14 (a.tmps.getD 99 undef) W := hd ⟨14, .data⟩ (by simp) rfl
            replace f14 : Reads W (a.tmps[99]?.getD undef) [1] := by simpa [FK] using f14
            clear hd hk
            simp [Oper.wp, execOp, go_sem]
            refine Calls.mono (Unpack_any _ _ [1] (-1) f14) ?_
            rintro e w4 ⟨u, rfl, ho, hc⟩
            refine ⟨_, rfl, ?_, hc, hg.trans hc⟩
            have hs := (Reads.of_own ho).shape (show (unpackS [1] (-1)).length = 0 from by decide +kernel)
            simpa [FK] using hs
          · intro o ho a W hg hk hd; injection (show some _ = some o from ho) with ho; subst ho
            have f15 : FK 15 (a.tmps.getD 100 undef) W := hd ⟨15, .data⟩ (by simp) rfl
            obtain ⟨x15, c15, f15⟩ : ∃ x c, a.tmps[100]?.getD undef = .slice x 0 c := by simpa [FK] using f15
            clear hd hk
            simp [Oper.wp, execOp, go_sem, f15]
            exact ⟨_, rfl, (by first | (simp [FK]; done) | (simp [FK]; rfl)), Chg.refl _ _, hg⟩
          · intro o ho a W hg hk hd; injection (show some _ = some o from ho) with ho; subst ho
            have f13 : FK 13 (a.tmps.getD 98 undef) W := hd ⟨13, .data⟩ (by simp) rfl
            replace f13 : a.tmps[98]?.getD undef = .int .i64 0 := by simpa [FK] using f13
            have f16 : FK 16 (a.tmps.getD 101 undef) W := hd ⟨16, .data⟩ (by simp) rfl
            replace f16 : a.tmps[101]?.getD undef = .int .i64 0 := by simpa [FK] using f16
            clear hd hk
            simp [Oper.wp, execOp, go_sem, f13, f16]
            exact ⟨_, rfl, (by first | (simp [FK]; done) | (simp [FK]; rfl)), Chg.refl _ _, hg⟩
          · intro o ho a W hg hk hd; injection (show some _ = some o from ho) with ho; subst ho
            clear hd hk
            simp [Oper.wp, execOp, go_sem]
            refine ⟨_, rfl, ?_, Chg.alloc _ _ _, hg.trans (Chg.alloc _ _ _)⟩
            have hr := Reads.new (w := W) (e := 5) (k := W.heap.size) (cs := #[.int .u8 1]) (n := 1) [1] rfl rfl rfl (by decide)
            simpa [FK] using hr
          · intro o ho a W hg hk hd; injection (show some _ = some o from ho) with ho; subst ho
            have f18 : FK 18 (a.tmps.getD 103 undef) W := hd ⟨18, .data⟩ (by simp) rfl
            replace f18 : Reads W (a.tmps[103]?.getD undef) [1] := by simpa [FK] using f18
            clear hd hk
            simp [Oper.wp, execOp, go_sem]
            refine Calls.mono (Offset_any _ _ _ [] [1] (Reads.nil _) f18) ?_
            rintro e w4 ⟨u, rfl, ho, hc⟩
            refine ⟨_, rfl, ?_, hc, hg.trans hc⟩
            have hs := (Reads.of_own ho).shape (show (offS [] [1]).length = 0 from by decide +kernel)
            simpa [FK] using hs
          · intro o ho a W hg hk hd; injection (show some _ = some o from ho) with ho; subst ho
            have f19 : FK 19 (a.tmps.getD 104 undef) W := hd ⟨19, .data⟩ (by simp) rfl
            obtain ⟨x19, c19, f19⟩ : ∃ x c, a.tmps[104]?.getD undef = .slice x 0 c := by simpa [FK] using f19
            clear hd hk
            simp [Oper.wp, execOp, go_sem, f19]
            exact ⟨_, rfl, (by first | (simp [FK]; done) | (simp [FK]; rfl)), Chg.refl _ _, hg⟩
          · intro o ho a W hg hk hd; injection (show some _ = some o from ho) with ho; subst ho
            have f17 : FK 17 (a.tmps.getD 102 undef) W := hd ⟨17, .data⟩ (by simp) rfl
            replace f17 : a.tmps[102]?.getD undef = .int .i64 0 := by simpa [FK] using f17
            have f20 : FK 20 (a.tmps.getD 105 undef) W := hd ⟨20, .data⟩ (by simp) rfl
            replace f20 : a.tmps[105]?.getD undef = .int .i64 0 := by simpa [FK] using f20
            clear hd hk
            simp [Oper.wp, execOp, go_sem, f17, f20]
            exact ⟨_, rfl, (by first | (simp [FK]; done) | (simp [FK]; rfl)), Chg.refl _ _, hg⟩
          · intro o ho a W hg hk hd; injection (show some _ = some o from ho) with ho; subst ho
            clear hd hk
            simp [Oper.wp, execOp, go_sem]
            refine ⟨_, rfl, ?_, Chg.alloc _ _ _, hg.trans (Chg.alloc _ _ _)⟩
            have hr := Reads.new (w := W) (e := 5) (k := W.heap.size) (cs := #[.int .u8 1]) (n := 1) [1] rfl rfl rfl (by decide)
            simpa [FK] using hr
          · intro o ho a W hg hk hd; injection (show some _ = some o from ho) with ho; subst ho
            clear hd hk
            have hmk : (Instr.makeSlice 22 (.int .i64 17) (.int .i64 17)).run Try.prog W = .ok (.slice (some ⟨W.heap.size, 0, none⟩) 17 17) (W.alloc (.cells (zrow 17) 5)) := mk_bytes (P := Try.prog) 22 5 Try.underlying22 info_u8 17 (by omega) W
            simp [Oper.wp, execOp, go_sem, hmk]
            refine ⟨_, rfl, ?_, Chg.alloc _ _ _, hg.trans (Chg.alloc _ _ _)⟩
            have hr := Reads.new (w := W) (e := 5) (k := W.heap.size) (cs := zrow 17) (n := 17) (List.replicate 17 0) rfl (zrow_eq 17) rfl (by decide)
            simpa [FK] using hr
          · intro o ho a W hg hk hd; injection (show some _ = some o from ho) with ho; subst ho
            have f22 : FK 22 (a.tmps.getD 107 undef) W := hd ⟨22, .data⟩ (by simp) rfl
            replace f22 : Reads W (a.tmps[107]?.getD undef) [1] := by simpa [FK] using f22
            have f23 : FK 23 (a.tmps.getD 108 undef) W := hd ⟨23, .data⟩ (by simp) rfl
            replace f23 : Reads W (a.tmps[108]?.getD undef) (List.replicate 17 0) := by simpa [FK] using f23
            clear hd hk
            simp [Oper.wp, execOp, go_sem]
            refine Calls.mono (Offset_any _ _ _ [1] (List.replicate 17 0) f22 f23) ?_
            rintro e w4 ⟨u, rfl, ho, hc⟩
            refine ⟨_, rfl, ?_, hc, hg.trans hc⟩
            have hs := (Reads.of_own ho).shape (show (offS [1] (List.replicate 17 0)).length = 0 from by decide +kernel)
            simpa [FK] using hs
          · intro o ho a W hg hk hd; injection (show some _ = some o from ho) with ho; subst ho
            have f24 : FK 24 (a.tmps.getD 109 undef) W := hd ⟨24, .data⟩ (by simp) rfl
            obtain ⟨x24, c24, f24⟩ : ∃ x c, a.tmps[109]?.getD undef = .slice x 0 c := by simpa [FK] using f24
            clear hd hk
            simp [Oper.wp, execOp, go_sem, f24]
            exact ⟨_, rfl, (by first | (simp [FK]; done) | (simp [FK]; rfl)), Chg.refl _ _, hg⟩
          · intro o ho a W hg hk hd; injection (show some _ = some o from ho) with ho; subst ho
            have f21 : FK 21 (a.tmps.getD 106 undef) W := hd ⟨21, .data⟩ (by simp) rfl
            replace f21 : a.tmps[106]?.getD undef = .int .i64 0 := by simpa [FK] using f21
            have f25 : FK 25 (a.tmps.getD 110 undef) W := hd ⟨25, .data⟩ (by simp) rfl
            replace f25 : a.tmps[110]?.getD undef = .int .i64 0 := by simpa [FK] using f25
            clear hd hk
            simp [Oper.wp, execOp, go_sem, f21, f25]
            exact ⟨_, rfl, (by first | (simp [FK]; done) | (simp [FK]; rfl)), Chg.refl _ _, hg⟩
          · intro o ho a W hg hk hd; injection (show some _ = some o from ho) with ho; subst ho
            have f26 : FK 26 (a.tmps.getD 111 undef) W := hd ⟨26, .data⟩ (by simp) rfl
            replace f26 : a.tmps[111]?.getD undef = .int .i64 0 := by simpa [FK] using f26
            clear hd hk
            simp [Oper.wp, execOp, go_sem, f26]
            exact ⟨_, rfl, (by first | (simp [FK]; done) | (simp [FK]; rfl)), Chg.refl _ _, hg⟩
          · intro o ho a W hg hk hd; injection (show some _ = some o from ho) with ho; subst ho
            have f27 : FK 27 (a.tmps.getD 112 undef) W := hd ⟨27, .data⟩ (by simp) rfl
            replace f27 : a.tmps[112]?.getD undef = .bool true := by simpa [FK] using f27
            clear hd hk
            simp [Oper.wp, execOp, go_sem, f27]
            exact ⟨_, rfl, (by first | (simp [FK]; done) | (simp [FK]; rfl)), Chg.refl _ _, hg⟩
      case hend =>
        intro a W hk hf hg
        have f28 : FK 28 (a.tmps.getD 8 undef) W := hf 28 (by decide)
        replace f28 : a.tmps.getD 8 undef = .bool true := by simpa [FK] using f28
        have ha := hk.act [85, 86, 87, 88, 89, 90, 91, 92, 93, 94, 95, 96, 97, 98, 99, 100, 101, 102, 103, 104, 105, 106, 107, 108, 109, 110, 111, 112, 8] (by kernel_rfl)
        rw [ha]
        clear hf hk ha
        simp only [List.foldl_cons, List.foldl_nil, f28, List.setIfInBounds_toArray, List.set_cons_zero, List.set_cons_succ]
        have HG := hid (HC2.out.trans hg)
        have HU := hid (HU.out.keep hg (by simp))
        clear hg f28
        rcases HU.out.parts (show ([18, 52, 86, 120, 144, 18, 52, 86, 120, 144, 18, 52, 86, 120, 144, 28] : Bs).length = 16 from rfl) with ⟨_, h0, _⟩ | ⟨bb, off, cap, rfl, _, hm4, hm5, _⟩
        · omega
        have HKK := hid hm4
        clear hm4
        have hmk : ∀ W, (Instr.makeSlice 22 (.int .i64 17) (.int .i64 17)).run Try.prog W = .ok (.slice (some ⟨W.heap.size, 0, none⟩) 17 17) (W.alloc (.cells (zrow 17) 5)) := fun W => mk_bytes (P := Try.prog) 22 5 Try.underlying22 info_u8 17 (by omega) W
        go_wp2_with (go_at_call 28; refine (dec_any _ _ _).mono ?_; rintro e w4 ⟨rfl, hc⟩; have HU := hid (HU.out.keep hc (by simp)); have HG := hid (HG.out.trans hc); clear hc)
        refine Calls.mono (Zoned_any _ false ⟨#[48, 48, 55]⟩ (by decide +kernel) 3) ?_
        rw [show zonS false (⟨#[48, 48, 55]⟩ : ByteArray).data.toList 3 = ([], false) from by decide +kernel]
        rintro e w5 ⟨uz, rfl, ho, hc⟩
        obtain ⟨za, zc, rfl⟩ := (Reads.of_own ho).shape rfl
        have HU := hid (HU.out.keep hc (by simp))
        have HG := hid (HG.out.trans hc)
        clear ho hc
        go_wp2_with (fail)
        refine Calls.mono (works_yes _) ?_
        rintro e w6 ⟨rfl, hc⟩
        have HU := hid (HU.out.keep hc (by simp))
        have HG := hid (HG.out.trans hc)
        clear hc
        rcases HU.out.parts (show ([18, 52, 86, 120, 144, 18, 52, 86, 120, 144, 18, 52, 86, 120, 144, 28] : Bs).length = 16 from rfl) with ⟨_, h0, _⟩ | ⟨_, _, _, hv, _, _, _, HCL⟩
        · omega
        cases hv
        have c0 : w6.cell? ⟨bb, off, none⟩ = some (.int .u8 18) := HCL.out 0 (by omega)
        have c15 : w6.cell? ⟨bb, off + 15, none⟩ = some (.int .u8 28) := HCL.out 15 (by omega)
        go_wp2_with (fail)
        refine Calls.mono (not_yes _ _ [] (Reads.nil _) (by decide +kernel)) ?_
        rintro e w7 ⟨rfl, hc⟩
        have HG := hid (HG.out.trans hc)
        clear hc c0 c15
        go_wp2_with (fail)
        refine Calls.mono (not_yes _ _ (List.replicate 17 0) (Reads.new (List.replicate 17 0) rfl (zrow_eq 17) rfl (by decide)) (by decide +kernel)) ?_
        rintro e w8 ⟨rfl, hc⟩
        have HG := hid ((HG.out.trans (Chg.alloc _ _ _)).trans hc)
        clear hc
        go_wp2_with (fail)
        go_returns
        exact ⟨rfl, HG.out⟩

theorem PackedKnown_walk (w : World) : Calls Try.prog 10 #[] w fun e w' => e = .returned (.bool true) ∧ Below w.heap.size w w' :=
  (pknown_in w).mono fun e w' ⟨he, hc⟩ => ⟨he, hc.nil_below⟩

end Go.Proofs.Ytmmhokcdchhciaa
