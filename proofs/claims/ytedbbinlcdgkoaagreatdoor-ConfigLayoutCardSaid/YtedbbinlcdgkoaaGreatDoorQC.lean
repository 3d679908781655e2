import Derived.Laws.Runes
import Derived.Outline
import Derived.WalkMore
import Derived.Shelf.Strings.SlTrimAscii
import Derived.Lib.AtoiErrMem
import Derived.Test.YtedbbinlcdgkoaaGreatDoorProg
import Derived.Test.YtedbbinlcdgkoaaGreatDoorShelf
import Derived.Test.YtedbbinlcdgkoaaGreatDoorTT
import Derived.Test.YtedbbinlcdgkoaaGreatDoorVW

/- Layer 19: sizes, plain words, partitions. -/
namespace Go.Proofs.YtedbbinlcdgkoaaGreatDoor
open Go.RowKit
-- FUSE
-- LESS
set_option linter.unusedVariables false
set_option linter.unusedSimpArgs false
attribute [go_sem] beq_self_eq_true Bool.and_self
theorem mixed : Tryz.prog.follows .mixedOrders = true := by kernel_rfl
abbrev Bs := List UInt8
theorem spec_lib {P : Program} {f : FuncId} {fn : Func} {args : List V} {r : V} (hf : P.funcs[f]? = some fn) (hb : fn.body.isSome = true) (hn : (fn.name == "runtime.NumGoroutine") = false) (hr : r.refs = [])
    (h : ∀ S w vs, GcW w → RepL S args vs → Calls P f vs.toArray w fun e w' => ∃ v, e = .returned v ∧ Chg [] w w' ∧ ∀ S', Rep S' r v) : Spec P f args r :=
  ⟨⟨fn, hf, hb, hn⟩, hr, fun M w vs hM hG hv => (h _ w vs hG.2 hv).mono fun e w' ⟨v, h1, h2, h3⟩ => ⟨v, h1, h2, h3 _⟩⟩
theorem repL2 {S : Sit} {x y : V} {vs : List Value} (h : RepL S [x, y] vs) : ∃ u v, vs = [u, v] ∧ Rep S x u ∧ Rep S y v := by
  obtain ⟨u, us, rfl, h1, v, vs', rfl, h2, h3⟩ := h
  cases h3
  exact ⟨u, v, rfl, h1, h2⟩
theorem repL1 {S : Sit} {x : V} {vs : List Value} (h : RepL S [x] vs) : ∃ u, vs = [u] ∧ Rep S x u := by
  obtain ⟨u, us, rfl, h1, h3⟩ := h
  cases h3
  exact ⟨u, rfl, h1⟩
def capC (c : UInt8) : Bool := (decide (65 ≤ c.toNat) && decide (c.toNat ≤ 90)) || (decide (48 ≤ c.toNat) && decide (c.toNat ≤ 57))
def capR (x : Nat) : Bool := (decide (65 ≤ x) && decide (x ≤ 90)) || (decide (48 ≤ x) && decide (x ≤ 57))
end Go.Proofs.YtedbbinlcdgkoaaGreatDoor
namespace Go.Proofs.YtedbbinlcdgkoaaGreatDoor
open Go.RowKit Go.Lib
theorem decode_low (s : ByteArray) (pos : Nat) (h : (s.get! pos).toNat < 128) : Utf8.decode s pos = ((s.get! pos).toNat, 1) := by
  unfold Utf8.decode
  simp only [Nat.add_zero]
  rw [if_pos h]
theorem decode_high (s : ByteArray) (pos : Nat) (h : 128 ≤ (s.get! pos).toNat) : 128 ≤ (Utf8.decode s pos).1 := by
  rw [decode_at]
  unfold decodeN
  repeat' split
  all_goals (simp only; omega)
theorem get_bang (s : ByteArray) (pos : Nat) (h : pos < s.size) : s.data.toList.drop pos = s.get! pos :: s.data.toList.drop (pos + 1) := by
  have hl : pos < s.data.toList.length := by simpa using h
  rw [List.drop_eq_getElem_cons hl]
  congr 1
  have : s.get! pos = s.data[pos]! := rfl
  rw [this, getElem!_pos s.data pos (by simpa using hl)]
  simp

theorem idx_from (p : Nat → Bool) (ok : UInt8 → Bool) (hp : ∀ c : UInt8, c.toNat < 128 → p c.toNat = !ok c) (hq : ∀ x, 128 ≤ x → p x = true) (hok : ∀ c, ok c = true → c.toNat < 128) (s : ByteArray) :
    ∀ (f pos : Nat), s.size ≤ pos + f → decide (0 ≤ idxFuncFrom p true s f pos) = !((s.data.toList.drop pos).all ok)
  | 0, pos, h => by
    rw [List.drop_of_length_le (by simpa using h)]; rfl
  | f + 1, pos, h => by
    unfold idxFuncFrom
    by_cases hl : pos < s.size
    · rw [if_pos hl, get_bang s pos hl, List.all_cons]
      by_cases hc : (s.get! pos).toNat < 128
      · rw [decode_low s pos hc]
        simp only
        rw [hp _ hc]
        cases ho : ok (s.get! pos)
        · simp
        · simp only [Bool.not_true, Bool.false_eq_true, if_false, Bool.true_and]
          exact idx_from p ok hp hq hok s f (pos + 1) (by omega)
      · rw [hq _ (decode_high s pos (by omega)), if_pos rfl]
        have : ok (s.get! pos) = false := by
          cases ho : ok (s.get! pos)
          · rfl
          · exact absurd (hok _ ho) hc
        rw [this]; simp
    · rw [if_neg hl, List.drop_of_length_le (by simp; omega)]; rfl
theorem idx_all (p : Nat → Bool) (ok : UInt8 → Bool) (hp : ∀ c : UInt8, c.toNat < 128 → p c.toNat = !ok c) (hq : ∀ x, 128 ≤ x → p x = true) (hok : ∀ c, ok c = true → c.toNat < 128) (s : ByteArray) :
    decide (0 ≤ idxFunc p true s) = !(s.data.toList.all ok) := by
  unfold idxFunc
  rw [idx_from p ok hp hq hok s s.size 0 (by omega)]; rfl

end Go.Proofs.YtedbbinlcdgkoaaGreatDoor
namespace Go.Proofs.YtedbbinlcdgkoaaGreatDoor
open Go.RowKit Go.Shelf
set_option linter.unusedVariables false
set_option linter.unusedSimpArgs false
set_option maxHeartbeats 8000000 in
set_option maxRecDepth 4000 in
theorem plain1_spec (x : Nat) : Spec Tryz.prog 102 [.int .i32 (x : Int)] (.bool (!capR x)) := by
  rcases (by omega : x < 48 ∨ (48 ≤ x ∧ x ≤ 57) ∨ (57 < x ∧ x < 65) ∨ (65 ≤ x ∧ x ≤ 90) ∨ 90 < x) with h | h | h | h | h
  · have e0 : decide ((x : Int) < 65) = true := decide_eq_true (by omega)
    have e1 : decide ((90 : Int) < (x : Int)) = false := decide_eq_false (by omega)
    have e2 : decide ((x : Int) < 48) = true := decide_eq_true (by omega)
    have e3 : decide ((57 : Int) < (x : Int)) = false := decide_eq_false (by omega)
    have er : (!capR x) = true := by first | (subst h; rfl) | (unfold capR; simp; omega)
    rw [er]
    refine spec_of tt_ok Tryz.func102 rfl (by decide) Tryz.ntmps102 (congrArg Array.toList Tryz.results102) (by simp) (by decide) rfl rfl (fun F hF => ?_)
    refine vwp_seq_k fun Na hNa => vreg tt_ok hF rfl ?_; simp only [go_sem, Int.reduceEq, Int.reduceLT, Nat.reduceEqDiff, Nat.reduceAdd, Nat.reduceMul, Nat.reduceLT, Nat.reduceLeDiff, Int.reduceToNat]
    refine hNa _ (VWp.keepR [0] [] tt_ok hF rfl fun Nb hNb => ?_); simp only [e0, e1, e2, e3, go_sem, Int.reduceEq, Int.reduceLT, Nat.reduceEqDiff, Nat.reduceAdd, Nat.reduceMul, Nat.reduceLT, Nat.reduceLeDiff, Int.reduceToNat]
    refine hNb _ (VWp.keep [2] [] ?_); simp only [go_sem, Int.reduceEq, Int.reduceLT, Nat.reduceEqDiff, Nat.reduceAdd, Nat.reduceMul, Nat.reduceLT, Nat.reduceLeDiff, Int.reduceToNat]
    refine vwp_ret ?_
    simp only [go_sem, Int.reduceEq, Int.reduceLT, Nat.reduceEqDiff, Nat.reduceAdd, Nat.reduceMul, Nat.reduceLT, Nat.reduceLeDiff, Int.reduceToNat]
    exact LeV.refl _
  · have e0 : decide ((x : Int) < 65) = true := decide_eq_true (by omega)
    have e1 : decide ((90 : Int) < (x : Int)) = false := decide_eq_false (by omega)
    have e2 : decide ((x : Int) < 48) = false := decide_eq_false (by omega)
    have e3 : decide ((57 : Int) < (x : Int)) = false := decide_eq_false (by omega)
    have er : (!capR x) = false := by first | (subst h; rfl) | (unfold capR; simp; omega)
    rw [er]
    refine spec_of tt_ok Tryz.func102 rfl (by decide) Tryz.ntmps102 (congrArg Array.toList Tryz.results102) (by simp) (by decide) rfl rfl (fun F hF => ?_)
    refine vwp_seq_k fun Na hNa => vreg tt_ok hF rfl ?_; simp only [go_sem, Int.reduceEq, Int.reduceLT, Nat.reduceEqDiff, Nat.reduceAdd, Nat.reduceMul, Nat.reduceLT, Nat.reduceLeDiff, Int.reduceToNat]
    refine hNa _ (VWp.keepR [0] [] tt_ok hF rfl fun Nb hNb => ?_); simp only [e0, e1, e2, e3, go_sem, Int.reduceEq, Int.reduceLT, Nat.reduceEqDiff, Nat.reduceAdd, Nat.reduceMul, Nat.reduceLT, Nat.reduceLeDiff, Int.reduceToNat]
    refine hNb _ (VWp.keep [2] [] ?_); simp only [go_sem, Int.reduceEq, Int.reduceLT, Nat.reduceEqDiff, Nat.reduceAdd, Nat.reduceMul, Nat.reduceLT, Nat.reduceLeDiff, Int.reduceToNat]
    refine vwp_ret ?_
    simp only [go_sem, Int.reduceEq, Int.reduceLT, Nat.reduceEqDiff, Nat.reduceAdd, Nat.reduceMul, Nat.reduceLT, Nat.reduceLeDiff, Int.reduceToNat]
    exact LeV.refl _
  · have e0 : decide ((x : Int) < 65) = true := decide_eq_true (by omega)
    have e1 : decide ((90 : Int) < (x : Int)) = false := decide_eq_false (by omega)
    have e2 : decide ((x : Int) < 48) = false := decide_eq_false (by omega)
    have e3 : decide ((57 : Int) < (x : Int)) = true := decide_eq_true (by omega)
    have er : (!capR x) = true := by first | (subst h; rfl) | (unfold capR; simp; omega)
    rw [er]
    refine spec_of tt_ok Tryz.func102 rfl (by decide) Tryz.ntmps102 (congrArg Array.toList Tryz.results102) (by simp) (by decide) rfl rfl (fun F hF => ?_)
    refine vwp_seq_k fun Na hNa => vreg tt_ok hF rfl ?_; simp only [go_sem, Int.reduceEq, Int.reduceLT, Nat.reduceEqDiff, Nat.reduceAdd, Nat.reduceMul, Nat.reduceLT, Nat.reduceLeDiff, Int.reduceToNat]
    refine hNa _ (VWp.keepR [0] [] tt_ok hF rfl fun Nb hNb => ?_); simp only [e0, e1, e2, e3, go_sem, Int.reduceEq, Int.reduceLT, Nat.reduceEqDiff, Nat.reduceAdd, Nat.reduceMul, Nat.reduceLT, Nat.reduceLeDiff, Int.reduceToNat]
    refine hNb _ (VWp.keep [2] [] ?_); simp only [go_sem, Int.reduceEq, Int.reduceLT, Nat.reduceEqDiff, Nat.reduceAdd, Nat.reduceMul, Nat.reduceLT, Nat.reduceLeDiff, Int.reduceToNat]
    refine vwp_ret ?_
    simp only [go_sem, Int.reduceEq, Int.reduceLT, Nat.reduceEqDiff, Nat.reduceAdd, Nat.reduceMul, Nat.reduceLT, Nat.reduceLeDiff, Int.reduceToNat]
    exact LeV.refl _
  · have e0 : decide ((x : Int) < 65) = false := decide_eq_false (by omega)
    have e1 : decide ((90 : Int) < (x : Int)) = false := decide_eq_false (by omega)
    have e2 : decide ((x : Int) < 48) = false := decide_eq_false (by omega)
    have e3 : decide ((57 : Int) < (x : Int)) = true := decide_eq_true (by omega)
    have er : (!capR x) = false := by first | (subst h; rfl) | (unfold capR; simp; omega)
    rw [er]
    refine spec_of tt_ok Tryz.func102 rfl (by decide) Tryz.ntmps102 (congrArg Array.toList Tryz.results102) (by simp) (by decide) rfl rfl (fun F hF => ?_)
    refine vwp_seq_k fun Na hNa => vreg tt_ok hF rfl ?_; simp only [go_sem, Int.reduceEq, Int.reduceLT, Nat.reduceEqDiff, Nat.reduceAdd, Nat.reduceMul, Nat.reduceLT, Nat.reduceLeDiff, Int.reduceToNat]
    refine hNa _ (VWp.keepR [0] [] tt_ok hF rfl fun Nb hNb => ?_); simp only [e0, e1, e2, e3, go_sem, Int.reduceEq, Int.reduceLT, Nat.reduceEqDiff, Nat.reduceAdd, Nat.reduceMul, Nat.reduceLT, Nat.reduceLeDiff, Int.reduceToNat]
    refine hNb _ (VWp.keep [2] [] ?_); simp only [go_sem, Int.reduceEq, Int.reduceLT, Nat.reduceEqDiff, Nat.reduceAdd, Nat.reduceMul, Nat.reduceLT, Nat.reduceLeDiff, Int.reduceToNat]
    refine vwp_ret ?_
    simp only [go_sem, Int.reduceEq, Int.reduceLT, Nat.reduceEqDiff, Nat.reduceAdd, Nat.reduceMul, Nat.reduceLT, Nat.reduceLeDiff, Int.reduceToNat]
    exact LeV.refl _
  · have e0 : decide ((x : Int) < 65) = false := decide_eq_false (by omega)
    have e1 : decide ((90 : Int) < (x : Int)) = true := decide_eq_true (by omega)
    have e2 : decide ((x : Int) < 48) = false := decide_eq_false (by omega)
    have e3 : decide ((57 : Int) < (x : Int)) = true := decide_eq_true (by omega)
    have er : (!capR x) = true := by first | (subst h; rfl) | (unfold capR; simp; omega)
    rw [er]
    refine spec_of tt_ok Tryz.func102 rfl (by decide) Tryz.ntmps102 (congrArg Array.toList Tryz.results102) (by simp) (by decide) rfl rfl (fun F hF => ?_)
    refine vwp_seq_k fun Na hNa => vreg tt_ok hF rfl ?_; simp only [go_sem, Int.reduceEq, Int.reduceLT, Nat.reduceEqDiff, Nat.reduceAdd, Nat.reduceMul, Nat.reduceLT, Nat.reduceLeDiff, Int.reduceToNat]
    refine hNa _ (VWp.keepR [0] [] tt_ok hF rfl fun Nb hNb => ?_); simp only [e0, e1, e2, e3, go_sem, Int.reduceEq, Int.reduceLT, Nat.reduceEqDiff, Nat.reduceAdd, Nat.reduceMul, Nat.reduceLT, Nat.reduceLeDiff, Int.reduceToNat]
    refine hNb _ (VWp.keep [2] [] ?_); simp only [go_sem, Int.reduceEq, Int.reduceLT, Nat.reduceEqDiff, Nat.reduceAdd, Nat.reduceMul, Nat.reduceLT, Nat.reduceLeDiff, Int.reduceToNat]
    refine vwp_ret ?_
    simp only [go_sem, Int.reduceEq, Int.reduceLT, Nat.reduceEqDiff, Nat.reduceAdd, Nat.reduceMul, Nat.reduceLT, Nat.reduceLeDiff, Int.reduceToNat]
    exact LeV.refl _
theorem gc_chg {w W : World} (h : GcW w) (hc : Chg [] w W) : GcW W := gc_keep h (fun b p c _ q => hc.cell q (by simp)) (hc.block _ (gc_lt h) (by simp))
theorem gc_below {w W : World} (h : GcW w) (hb : Below w.heap.size w W) : GcW W := gc_chg h (Chg.of_below hb [])
theorem pred_of {P : Program} {f : FuncId} (q : Nat → Bool) (h : ∀ x : Nat, Spec P f [.int .i32 (x : Int)] (.bool (q x))) (x : Nat) (W : World) (hg : GcW W) : Calls P f #[.int .i32 (x : Int)] W fun e w' => e = .returned (.bool (q x)) ∧ Below W.heap.size W w' := by
  refine ((h x).run (fun _ _ => False) W [.int .i32 (x : Int)] (fun _ _ h => h.elim) ⟨fun _ _ _ h => h, hg⟩ ⟨_, _, rfl, rfl, rfl⟩).mono ?_
  rintro e w' ⟨v, rfl, hc, hr⟩
  have hr : v = .bool (q x) := hr
  subst hr
  exact ⟨rfl, hc.nil_below⟩
theorem hasBadS_any (S : ByteArray) (w : World) (hg : GcW w) : Calls Tryz.prog 101 #[.string S, .func (.func 102) #[] #[]] w fun e w' => e = .returned (.bool (!S.data.toList.all capC)) ∧ Chg [] w w' := by
  refine (Tryz.strings_ContainsFunc_grows 102 #[] (enters_of Tryz.func102 (by kernel_rfl) rfl) (fun x => !capR x) S w (fun W x hx hb => pred_of _ plain1_spec x W (gc_below hg hb))).mono ?_
  rintro e w' ⟨rfl, hb⟩
  refine ⟨?_, Chg.of_below hb []⟩
  rw [idx_all _ capC]
  · have : ∀ n < 128, (!capR n) = !capC (UInt8.ofNat n) := by decide +kernel
    intro c hc
    have h := this c.toNat hc
    rwa [UInt8.ofNat_toNat] at h
  · intro x hx
    have h1 : capR x = false := by unfold capR; simp; omega
    simp [h1]
  · have : ∀ n < 256, capC (UInt8.ofNat n) = true → n < 128 := by decide +kernel
    intro c hc
    have h := this c.toNat c.toNat_lt
    rw [UInt8.ofNat_toNat] at h
    exact h hc
theorem hasBadS_spec (s : Bs) : Spec Tryz.prog 101 [.str s, .fn (.func 102) []] (.bool (!s.all capC)) := by
  refine spec_lib Tryz.func101 rfl (by decide) rfl fun S w vs hG hv => ?_
  obtain ⟨u, v, rfl, h1, h2⟩ := repL2 hv
  cases h1
  obtain ⟨cs, rfl, h3⟩ := h2
  cases h3
  refine (hasBadS_any ⟨s.toArray⟩ w hG).mono ?_
  rintro e w' ⟨rfl, hc⟩
  exact ⟨_, rfl, hc, fun S' => rfl⟩
def plainT (s : Bs) (most : Nat) : Bool := !decide (s = []) && decide (s.length ≤ most) && s.all capC
set_option maxHeartbeats 4000000 in
set_option maxRecDepth 4000 in
theorem plain_spec (s : Bs) (most : Nat) : Spec Tryz.prog 72 [.str s, .int .i64 (most : Int)] (.bool (plainT s most)) := by
  have hb := hasBadS_spec s
  unfold plainT
  obtain ⟨b1, e1⟩ : ∃ b, decide (s = []) = b := ⟨_, rfl⟩
  obtain ⟨b2, e2⟩ : ∃ b, decide (s.length ≤ most) = b := ⟨_, rfl⟩
  have e3 : decide ((s.length : Int) ≤ (most : Int)) = b2 := by rw [← e2]; exact decide_eq_decide.2 (by omega)
  rw [e1, e2]
  cases b1 <;> cases b2
  all_goals
    refine spec_of tt_ok Tryz.func72 rfl (by decide) Tryz.ntmps72 (congrArg Array.toList Tryz.results72) (by simp) (by decide) rfl rfl (fun F hF => ?_)
    refine vwp_seq_k fun Na hNa => vreg tt_ok hF rfl ?_; simp only [go_sem, Int.reduceEq, Int.reduceLT, Nat.reduceEqDiff, Nat.reduceAdd, Nat.reduceMul, Nat.reduceLT, Nat.reduceLeDiff, Int.reduceToNat]
    refine hNa _ (VWp.keepR [0,1] [] tt_ok hF rfl fun Nb hNb => ?_); simp only [e1, e3, go_sem, Int.reduceEq, Int.reduceLT, Nat.reduceEqDiff, Nat.reduceAdd, Nat.reduceMul, Nat.reduceLT, Nat.reduceLeDiff, Int.reduceToNat]
    try (refine .inl ⟨_, hb, ?_⟩; try simp only [go_sem, Int.reduceEq, Int.reduceLT, Nat.reduceEqDiff, Nat.reduceAdd, Nat.reduceMul, Nat.reduceLT, Nat.reduceLeDiff, Int.reduceToNat])
    refine hNb _ (VWp.keep [4] [] ?_); simp only [go_sem, Int.reduceEq, Int.reduceLT, Nat.reduceEqDiff, Nat.reduceAdd, Nat.reduceMul, Nat.reduceLT, Nat.reduceLeDiff, Int.reduceToNat]
    refine vwp_ret ?_
    simp only [go_sem, Int.reduceEq, Int.reduceLT, Nat.reduceEqDiff, Nat.reduceAdd, Nat.reduceMul, Nat.reduceLT, Nat.reduceLeDiff, Int.reduceToNat]
    first | exact LeV.refl _ | exact LeV.of_eq (by simp)
def sizT (n : Int) : Bool := decide (2048 ≤ n) && decide (n ≤ 65536) && decide (n % 2048 = 0)
set_option maxHeartbeats 4000000 in
set_option maxRecDepth 4000 in
theorem isSize_spec (n : Int) : Spec Tryz.prog 45 [.int .i64 n] (.bool (sizT n)) := by
  unfold sizT
  by_cases c1 : 2048 ≤ n
  · have e3 : n.tmod 2048 = n % 2048 := Int.tmod_eq_emod_of_nonneg (by omega)
    obtain ⟨b2, e2⟩ : ∃ b, decide (n ≤ 65536) = b := ⟨_, rfl⟩
    have e1 : decide ((2048 : Int) ≤ n) = true := decide_eq_true c1
    rw [e1, e2]
    cases b2
    all_goals
      refine spec_of tt_ok Tryz.func45 rfl (by decide) Tryz.ntmps45 (congrArg Array.toList Tryz.results45) (by simp) (by decide) rfl rfl (fun F hF => ?_)
      refine vwp_seq_k fun Na hNa => vreg tt_ok hF rfl ?_; simp only [go_sem, Int.reduceEq, Int.reduceLT, Nat.reduceEqDiff, Nat.reduceAdd, Nat.reduceMul, Nat.reduceLT, Nat.reduceLeDiff, Int.reduceToNat]
      refine hNa _ (VWp.keepR [0] [] tt_ok hF rfl fun Nb hNb => ?_); simp only [e1, e2, go_sem, Int.reduceEq, Int.reduceLT, Nat.reduceEqDiff, Nat.reduceAdd, Nat.reduceMul, Nat.reduceLT, Nat.reduceLeDiff, Int.reduceToNat]
      refine hNb _ (VWp.keep [2] [] ?_); simp only [go_sem, Int.reduceEq, Int.reduceLT, Nat.reduceEqDiff, Nat.reduceAdd, Nat.reduceMul, Nat.reduceLT, Nat.reduceLeDiff, Int.reduceToNat]
      refine vwp_ret ?_
      simp only [e3, go_sem, Int.reduceEq, Int.reduceLT, Nat.reduceEqDiff, Nat.reduceAdd, Nat.reduceMul, Nat.reduceLT, Nat.reduceLeDiff, Int.reduceToNat]
      first | exact LeV.refl _ | exact LeV.of_eq (by simp)
  · have e1 : decide ((2048 : Int) ≤ n) = false := decide_eq_false c1
    rw [e1]
    refine spec_of tt_ok Tryz.func45 rfl (by decide) Tryz.ntmps45 (congrArg Array.toList Tryz.results45) (by simp) (by decide) rfl rfl (fun F hF => ?_)
    refine vwp_seq_k fun Na hNa => vreg tt_ok hF rfl ?_; simp only [go_sem, Int.reduceEq, Int.reduceLT, Nat.reduceEqDiff, Nat.reduceAdd, Nat.reduceMul, Nat.reduceLT, Nat.reduceLeDiff, Int.reduceToNat]
    refine hNa _ (VWp.keepR [0] [] tt_ok hF rfl fun Nb hNb => ?_); simp only [e1, go_sem, Int.reduceEq, Int.reduceLT, Nat.reduceEqDiff, Nat.reduceAdd, Nat.reduceMul, Nat.reduceLT, Nat.reduceLeDiff, Int.reduceToNat]
    refine hNb _ (VWp.keep [2] [] ?_); simp only [go_sem, Int.reduceEq, Int.reduceLT, Nat.reduceEqDiff, Nat.reduceAdd, Nat.reduceMul, Nat.reduceLT, Nat.reduceLeDiff, Int.reduceToNat]
    refine vwp_ret ?_
    simp only [go_sem, Int.reduceEq, Int.reduceLT, Nat.reduceEqDiff, Nat.reduceAdd, Nat.reduceMul, Nat.reduceLT, Nat.reduceLeDiff, Int.reduceToNat]
    exact LeV.refl _
structure UniT where
  addr : Int
  kind : Int
  ser : Bs
  cyl : Int
  head : Int
def uniC (u : UniT) : List V := [.int .i64 u.addr, .int .i64 u.kind, .str u.ser, .int .i64 u.cyl, .int .i64 u.head]
def flatT (u : UniT) : Bool := decide (u.cyl = 0) && decide (u.head = 0)
def unitT (u : UniT) : Bool := !(decide (u.addr < 0) || decide (1023 < u.addr)) &&
  (if u.kind = 1 ∨ u.kind = 2 ∨ u.kind = 3 then decide (u.ser = []) && flatT u
   else if u.kind = 4 then plainT u.ser 6 && flatT u
   else if u.kind = 5 then plainT u.ser 6 && decide (1 ≤ u.cyl) && decide (u.cyl ≤ 64) && decide (1 ≤ u.head) && decide (u.head ≤ 8)
   else false)
set_option maxHeartbeats 16000000 in
set_option maxRecDepth 4000 in
theorem validUnit_spec (u : UniT) : Spec Tryz.prog 47 [.agg (uniC u)] (.bool (unitT u)) := by
  have hpl : Spec Tryz.prog 72 [.str u.ser, .int .i64 6] (.bool (plainT u.ser 6)) := plain_spec u.ser 6
  unfold uniC unitT
  obtain ⟨b1, e1⟩ : ∃ b, decide (u.addr < 0) = b := ⟨_, rfl⟩
  obtain ⟨b2, e2⟩ : ∃ b, decide (1023 < u.addr) = b := ⟨_, rfl⟩
  rw [e1, e2]
  by_cases hb : (b1 || b2) = true
  · rw [hb]
    cases b1 <;> cases b2
    · cases hb
    all_goals
      refine spec_of tt_ok Tryz.func47 rfl (by decide) Tryz.ntmps47 (congrArg Array.toList Tryz.results47) (by simp) (by decide) rfl rfl (fun F hF => ?_)
      refine vwp_seq_k fun Na hNa => vreg tt_ok hF rfl ?_; simp only [go_sem, Int.reduceEq, Int.reduceLT, Nat.reduceEqDiff, Nat.reduceAdd, Nat.reduceMul, Nat.reduceLT, Nat.reduceLeDiff, Int.reduceToNat]
      refine hNa _ (VWp.keep [1] [1] ?_); simp only [go_sem, Int.reduceEq, Int.reduceLT, Nat.reduceEqDiff, Nat.reduceAdd, Nat.reduceMul, Nat.reduceLT, Nat.reduceLeDiff, Int.reduceToNat]
      refine vwp_seq_k fun Nb hNb => ?_
      refine vwp_seq_k fun Nc hNc => vreg tt_ok hF rfl ?_; simp only [e1, e2, go_sem, Int.reduceEq, Int.reduceLT, Nat.reduceEqDiff, Nat.reduceAdd, Nat.reduceMul, Nat.reduceLT, Nat.reduceLeDiff, Int.reduceToNat]
      refine hNc _ (VWp.keep [1,11] [1] ?_); simp only [go_sem, Int.reduceEq, Int.reduceLT, Nat.reduceEqDiff, Nat.reduceAdd, Nat.reduceMul, Nat.reduceLT, Nat.reduceLeDiff, Int.reduceToNat]
      refine vif rfl ⟨fun ht => ?_, (fun hf => by first | cases hf | (rw [e1] at hf; cases hf) | (rw [e2] at hf; cases hf))⟩
      refine vwp_seq_k fun Nd hNd => vreg tt_ok hF rfl ?_; simp only [go_sem, Int.reduceEq, Int.reduceLT, Nat.reduceEqDiff, Nat.reduceAdd, Nat.reduceMul, Nat.reduceLT, Nat.reduceLeDiff, Int.reduceToNat]
      refine hNd _ (VWp.keep [2] [] ?_); simp only [go_sem, Int.reduceEq, Int.reduceLT, Nat.reduceEqDiff, Nat.reduceAdd, Nat.reduceMul, Nat.reduceLT, Nat.reduceLeDiff, Int.reduceToNat]
      refine vwp_ret ?_
      simp only [go_sem, Int.reduceEq, Int.reduceLT, Nat.reduceEqDiff, Nat.reduceAdd, Nat.reduceMul, Nat.reduceLT, Nat.reduceLeDiff, Int.reduceToNat]
      exact LeV.refl _
  · obtain ⟨rfl, rfl⟩ : b1 = false ∧ b2 = false := by cases b1 <;> cases b2 <;> simp at hb ⊢
    rw [show (!(false || false)) = true from rfl, Bool.true_and]
    obtain ⟨fl, efl⟩ : ∃ b, flatT u = b := ⟨_, rfl⟩
    have hfl := efl
    rw [efl]
    unfold flatT at hfl
    obtain ⟨g1, h1⟩ : ∃ b, decide (u.cyl = 0) = b := ⟨_, rfl⟩
    obtain ⟨g2, h2⟩ : ∃ b, decide (u.head = 0) = b := ⟨_, rfl⟩
    rw [h1, h2] at hfl
    obtain ⟨p0, e0⟩ : ∃ b, plainT u.ser 6 = b := ⟨_, rfl⟩
    rw [e0] at hpl ⊢
    obtain ⟨q0, es⟩ : ∃ b, decide (u.ser = []) = b := ⟨_, rfl⟩
    rw [es]
    refine spec_of tt_ok Tryz.func47 rfl (by decide) Tryz.ntmps47 (congrArg Array.toList Tryz.results47) (by simp) (by decide) rfl rfl (fun F hF => ?_)
    refine vwp_seq_k fun Na hNa => vreg tt_ok hF rfl ?_; simp only [go_sem, Int.reduceEq, Int.reduceLT, Nat.reduceEqDiff, Nat.reduceAdd, Nat.reduceMul, Nat.reduceLT, Nat.reduceLeDiff, Int.reduceToNat]
    refine hNa _ (VWp.keep [1] [1] ?_); simp only [go_sem, Int.reduceEq, Int.reduceLT, Nat.reduceEqDiff, Nat.reduceAdd, Nat.reduceMul, Nat.reduceLT, Nat.reduceLeDiff, Int.reduceToNat]
    refine vwp_seq_k fun Nb hNb => ?_
    refine vwp_seq_k fun Nc hNc => vreg tt_ok hF rfl ?_; simp only [e1, e2, go_sem, Int.reduceEq, Int.reduceLT, Nat.reduceEqDiff, Nat.reduceAdd, Nat.reduceMul, Nat.reduceLT, Nat.reduceLeDiff, Int.reduceToNat]
    refine hNc _ (VWp.keep [1,11] [1] ?_); simp only [go_sem, Int.reduceEq, Int.reduceLT, Nat.reduceEqDiff, Nat.reduceAdd, Nat.reduceMul, Nat.reduceLT, Nat.reduceLeDiff, Int.reduceToNat]
    refine vif rfl ⟨(fun ht => by first | cases ht | (rw [e1] at ht; cases ht) | (rw [e2] at ht; cases ht)), fun hf => ?_⟩
    refine vwp_skip (hNb _ ?_)
    refine vmeet (fun _ : Unit => [(1, .ptr 1 0), (3, .bool fl)]) (fun _ => [(1, .box 58 [.int .i64 u.addr, .int .i64 u.kind, .str u.ser, .int .i64 u.cyl, .int .i64 u.head])]) (fun _ => True) ?_ ?_
    · cases g1 <;> cases g2
      all_goals
        subst hfl
        refine vreg tt_ok hF rfl ?_; simp only [h1, h2, go_sem, Int.reduceEq, Int.reduceLT, Nat.reduceEqDiff, Nat.reduceAdd, Nat.reduceMul, Nat.reduceLT, Nat.reduceLeDiff, Int.reduceToNat]
        exact ⟨(), trivial⟩
    · intro _ _
      refine vwp_seq_k fun Nf hNf => ?_
      refine vwp_seq_k fun Ng hNg => vreg tt_ok hF rfl ?_; simp only [go_sem, Int.reduceEq, Int.reduceLT, Nat.reduceEqDiff, Nat.reduceAdd, Nat.reduceMul, Nat.reduceLT, Nat.reduceLeDiff, Int.reduceToNat]
      refine hNg _ (VWp.keep [1,3,21] [1] ?_); simp only [go_sem, Int.reduceEq, Int.reduceLT, Nat.reduceEqDiff, Nat.reduceAdd, Nat.reduceMul, Nat.reduceLT, Nat.reduceLeDiff, Int.reduceToNat]
      refine vwp_block ?_
      refine vmeet (fun b : Bool => [(1, .ptr 1 0), (3, .bool fl), (21, .int .i64 u.kind), (22, .bool b)]) (fun _ => [(1, .box 58 [.int .i64 u.addr, .int .i64 u.kind, .str u.ser, .int .i64 u.cyl, .int .i64 u.head])]) (fun b => b = decide (u.kind = 1 ∨ u.kind = 2 ∨ u.kind = 3)) ?_ ?_
      · by_cases k1 : u.kind = 1
        · have e : decide (u.kind = 1) = true := decide_eq_true k1
          refine vwp_seq_k fun Ni hNi => vreg tt_ok hF rfl ?_; simp only [go_sem, Int.reduceEq, Int.reduceLT, Nat.reduceEqDiff, Nat.reduceAdd, Nat.reduceMul, Nat.reduceLT, Nat.reduceLeDiff, Int.reduceToNat]
          refine hNi _ (VWp.keep [1,3,21,22] [1] ?_); simp only [go_sem, Int.reduceEq, Int.reduceLT, Nat.reduceEqDiff, Nat.reduceAdd, Nat.reduceMul, Nat.reduceLT, Nat.reduceLeDiff, Int.reduceToNat]
          refine vif rfl ⟨fun _ => vwp_skip ⟨true, by simp [k1], by simp only [e, go_sem, Int.reduceEq, Int.reduceLT, Nat.reduceEqDiff, Nat.reduceAdd, Nat.reduceMul, Nat.reduceLT, Nat.reduceLeDiff, Int.reduceToNat]⟩, (fun hf => by rw [e] at hf; cases hf)⟩
        · have e : decide (u.kind = 1) = false := decide_eq_false k1
          refine vwp_seq_k fun Ni hNi => vreg tt_ok hF rfl ?_; simp only [go_sem, Int.reduceEq, Int.reduceLT, Nat.reduceEqDiff, Nat.reduceAdd, Nat.reduceMul, Nat.reduceLT, Nat.reduceLeDiff, Int.reduceToNat]
          refine hNi _ (VWp.keep [1,3,21,22] [1] ?_); simp only [go_sem, Int.reduceEq, Int.reduceLT, Nat.reduceEqDiff, Nat.reduceAdd, Nat.reduceMul, Nat.reduceLT, Nat.reduceLeDiff, Int.reduceToNat]
          refine vif rfl ⟨(fun ht => by rw [e] at ht; cases ht), fun _ => ?_⟩
          by_cases k2 : u.kind = 2
          · have e2 : decide (u.kind = 2) = true := decide_eq_true k2
            refine vwp_seq_k fun Np hNp => vreg tt_ok hF rfl ?_; simp only [go_sem, Int.reduceEq, Int.reduceLT, Nat.reduceEqDiff, Nat.reduceAdd, Nat.reduceMul, Nat.reduceLT, Nat.reduceLeDiff, Int.reduceToNat]
            refine hNp _ (VWp.keep [1,3,21,22] [1] ?_); simp only [go_sem, Int.reduceEq, Int.reduceLT, Nat.reduceEqDiff, Nat.reduceAdd, Nat.reduceMul, Nat.reduceLT, Nat.reduceLeDiff, Int.reduceToNat]
            refine vif rfl ⟨fun _ => vwp_skip ⟨true, by simp [k2], by simp only [e2, go_sem, Int.reduceEq, Int.reduceLT, Nat.reduceEqDiff, Nat.reduceAdd, Nat.reduceMul, Nat.reduceLT, Nat.reduceLeDiff, Int.reduceToNat]⟩, (fun hf => by rw [e2] at hf; cases hf)⟩
          · have e2 : decide (u.kind = 2) = false := decide_eq_false k2
            refine vwp_seq_k fun Np hNp => vreg tt_ok hF rfl ?_; simp only [go_sem, Int.reduceEq, Int.reduceLT, Nat.reduceEqDiff, Nat.reduceAdd, Nat.reduceMul, Nat.reduceLT, Nat.reduceLeDiff, Int.reduceToNat]
            refine hNp _ (VWp.keep [1,3,21,22] [1] ?_); simp only [go_sem, Int.reduceEq, Int.reduceLT, Nat.reduceEqDiff, Nat.reduceAdd, Nat.reduceMul, Nat.reduceLT, Nat.reduceLeDiff, Int.reduceToNat]
            refine vif rfl ⟨(fun ht => by rw [e2] at ht; cases ht), fun _ => ?_⟩
            refine vreg tt_ok hF rfl ?_; simp only [go_sem, Int.reduceEq, Int.reduceLT, Nat.reduceEqDiff, Nat.reduceAdd, Nat.reduceMul, Nat.reduceLT, Nat.reduceLeDiff, Int.reduceToNat]
            exact ⟨decide (u.kind = 3), by simp [k1, k2], rfl⟩
      · intro b hb
        by_cases k123 : u.kind = 1 ∨ u.kind = 2 ∨ u.kind = 3
        · rw [if_pos k123]
          rw [decide_eq_true k123] at hb
          subst hb
          refine vif rfl ⟨fun _ => ?_, (fun hf => by cases hf)⟩
          cases q0 <;> cases fl
          all_goals
            refine vwp_seq_k fun Nj hNj => vreg tt_ok hF rfl ?_; simp only [es, go_sem, Int.reduceEq, Int.reduceLT, Nat.reduceEqDiff, Nat.reduceAdd, Nat.reduceMul, Nat.reduceLT, Nat.reduceLeDiff, Int.reduceToNat]
            refine hNj _ (VWp.keep [2] [] ?_); simp only [go_sem, Int.reduceEq, Int.reduceLT, Nat.reduceEqDiff, Nat.reduceAdd, Nat.reduceMul, Nat.reduceLT, Nat.reduceLeDiff, Int.reduceToNat]
            refine vwp_ret ?_
            simp only [go_sem, Int.reduceEq, Int.reduceLT, Nat.reduceEqDiff, Nat.reduceAdd, Nat.reduceMul, Nat.reduceLT, Nat.reduceLeDiff, Int.reduceToNat]
            exact LeV.refl _
        · rw [if_neg k123]
          rw [decide_eq_false k123] at hb
          subst hb
          refine vif rfl ⟨(fun ht => by cases ht), fun _ => ?_⟩
          by_cases k4 : u.kind = 4
          · rw [if_pos k4]
            have e4 : decide (u.kind = 4) = true := decide_eq_true k4
            refine vwp_seq_k fun Nk hNk => vreg tt_ok hF rfl ?_; simp only [go_sem, Int.reduceEq, Int.reduceLT, Nat.reduceEqDiff, Nat.reduceAdd, Nat.reduceMul, Nat.reduceLT, Nat.reduceLeDiff, Int.reduceToNat]
            refine hNk _ (VWp.keep [1,3,21,32] [1] ?_); simp only [go_sem, Int.reduceEq, Int.reduceLT, Nat.reduceEqDiff, Nat.reduceAdd, Nat.reduceMul, Nat.reduceLT, Nat.reduceLeDiff, Int.reduceToNat]
            refine vif rfl ⟨fun _ => ?_, (fun hf => by rw [e4] at hf; cases hf)⟩
            cases p0 <;> cases fl
            all_goals
              refine vwp_seq_k fun Nl hNl => vreg tt_ok hF rfl ?_; simp only [go_sem, Int.reduceEq, Int.reduceLT, Nat.reduceEqDiff, Nat.reduceAdd, Nat.reduceMul, Nat.reduceLT, Nat.reduceLeDiff, Int.reduceToNat]
              refine .inl ⟨_, hpl, ?_⟩; try simp only [go_sem, Int.reduceEq, Int.reduceLT, Nat.reduceEqDiff, Nat.reduceAdd, Nat.reduceMul, Nat.reduceLT, Nat.reduceLeDiff, Int.reduceToNat]
              refine hNl _ (VWp.keep [2] [] ?_); simp only [go_sem, Int.reduceEq, Int.reduceLT, Nat.reduceEqDiff, Nat.reduceAdd, Nat.reduceMul, Nat.reduceLT, Nat.reduceLeDiff, Int.reduceToNat]
              refine vwp_ret ?_
              simp only [go_sem, Int.reduceEq, Int.reduceLT, Nat.reduceEqDiff, Nat.reduceAdd, Nat.reduceMul, Nat.reduceLT, Nat.reduceLeDiff, Int.reduceToNat]
              exact LeV.refl _
          · rw [if_neg k4]
            have e4 : decide (u.kind = 4) = false := decide_eq_false k4
            refine vwp_seq_k fun Nk hNk => vreg tt_ok hF rfl ?_; simp only [go_sem, Int.reduceEq, Int.reduceLT, Nat.reduceEqDiff, Nat.reduceAdd, Nat.reduceMul, Nat.reduceLT, Nat.reduceLeDiff, Int.reduceToNat]
            refine hNk _ (VWp.keep [1,3,21,32] [1] ?_); simp only [go_sem, Int.reduceEq, Int.reduceLT, Nat.reduceEqDiff, Nat.reduceAdd, Nat.reduceMul, Nat.reduceLT, Nat.reduceLeDiff, Int.reduceToNat]
            refine vif rfl ⟨(fun ht => by rw [e4] at ht; cases ht), fun _ => ?_⟩
            by_cases k5 : u.kind = 5
            · rw [if_pos k5]
              have e5 : decide (u.kind = 5) = true := decide_eq_true k5
              obtain ⟨r1, f1⟩ : ∃ b, decide (1 ≤ u.cyl) = b := ⟨_, rfl⟩
              obtain ⟨r2, f2⟩ : ∃ b, decide (u.cyl ≤ 64) = b := ⟨_, rfl⟩
              obtain ⟨r3, f3⟩ : ∃ b, decide (1 ≤ u.head) = b := ⟨_, rfl⟩
              rw [f1, f2, f3]
              refine vwp_seq_k fun Nm hNm => vreg tt_ok hF rfl ?_; simp only [go_sem, Int.reduceEq, Int.reduceLT, Nat.reduceEqDiff, Nat.reduceAdd, Nat.reduceMul, Nat.reduceLT, Nat.reduceLeDiff, Int.reduceToNat]
              refine hNm _ (VWp.keep [1,40] [1] ?_); simp only [go_sem, Int.reduceEq, Int.reduceLT, Nat.reduceEqDiff, Nat.reduceAdd, Nat.reduceMul, Nat.reduceLT, Nat.reduceLeDiff, Int.reduceToNat]
              refine vif rfl ⟨fun _ => ?_, (fun hf => by rw [e5] at hf; cases hf)⟩
              cases p0
              · refine vwp_seq_k fun Nn hNn => vreg tt_ok hF rfl ?_; simp only [go_sem, Int.reduceEq, Int.reduceLT, Nat.reduceEqDiff, Nat.reduceAdd, Nat.reduceMul, Nat.reduceLT, Nat.reduceLeDiff, Int.reduceToNat]
                refine .inl ⟨_, hpl, ?_⟩; try simp only [go_sem, Int.reduceEq, Int.reduceLT, Nat.reduceEqDiff, Nat.reduceAdd, Nat.reduceMul, Nat.reduceLT, Nat.reduceLeDiff, Int.reduceToNat]
                refine hNn _ (VWp.keep [2] [] ?_); simp only [go_sem, Int.reduceEq, Int.reduceLT, Nat.reduceEqDiff, Nat.reduceAdd, Nat.reduceMul, Nat.reduceLT, Nat.reduceLeDiff, Int.reduceToNat]
                refine vwp_ret ?_
                simp only [go_sem, Int.reduceEq, Int.reduceLT, Nat.reduceEqDiff, Nat.reduceAdd, Nat.reduceMul, Nat.reduceLT, Nat.reduceLeDiff, Int.reduceToNat]
                exact LeV.refl _
              · cases r1 <;> cases r2 <;> cases r3
                all_goals
                  refine vwp_seq_k fun Nn hNn => vreg tt_ok hF rfl ?_; simp only [go_sem, Int.reduceEq, Int.reduceLT, Nat.reduceEqDiff, Nat.reduceAdd, Nat.reduceMul, Nat.reduceLT, Nat.reduceLeDiff, Int.reduceToNat]
                  refine .inl ⟨_, hpl, ?_⟩; try simp only [go_sem, Int.reduceEq, Int.reduceLT, Nat.reduceEqDiff, Nat.reduceAdd, Nat.reduceMul, Nat.reduceLT, Nat.reduceLeDiff, Int.reduceToNat]
                  try simp only [f1, f2, f3, go_sem, Int.reduceEq, Int.reduceLT, Nat.reduceEqDiff, Nat.reduceAdd, Nat.reduceMul, Nat.reduceLT, Nat.reduceLeDiff, Int.reduceToNat]
                  refine hNn _ (VWp.keep [2] [] ?_); simp only [go_sem, Int.reduceEq, Int.reduceLT, Nat.reduceEqDiff, Nat.reduceAdd, Nat.reduceMul, Nat.reduceLT, Nat.reduceLeDiff, Int.reduceToNat]
                  refine vwp_ret ?_
                  simp only [go_sem, Int.reduceEq, Int.reduceLT, Nat.reduceEqDiff, Nat.reduceAdd, Nat.reduceMul, Nat.reduceLT, Nat.reduceLeDiff, Int.reduceToNat]
                  first | exact LeV.refl _ | exact LeV.of_eq (by simp)
            · rw [if_neg k5]
              have e5 : decide (u.kind = 5) = false := decide_eq_false k5
              refine vwp_seq_k fun Nm hNm => vreg tt_ok hF rfl ?_; simp only [go_sem, Int.reduceEq, Int.reduceLT, Nat.reduceEqDiff, Nat.reduceAdd, Nat.reduceMul, Nat.reduceLT, Nat.reduceLeDiff, Int.reduceToNat]
              refine hNm _ (VWp.keep [1,40] [1] ?_); simp only [go_sem, Int.reduceEq, Int.reduceLT, Nat.reduceEqDiff, Nat.reduceAdd, Nat.reduceMul, Nat.reduceLT, Nat.reduceLeDiff, Int.reduceToNat]
              refine vif rfl ⟨(fun ht => by rw [e5] at ht; cases ht), fun _ => ?_⟩
              refine vwp_skip (hNf _ ?_)
              refine vwp_seq_k fun No hNo => vreg tt_ok hF rfl ?_; simp only [go_sem, Int.reduceEq, Int.reduceLT, Nat.reduceEqDiff, Nat.reduceAdd, Nat.reduceMul, Nat.reduceLT, Nat.reduceLeDiff, Int.reduceToNat]
              refine hNo _ (VWp.keep [2] [] ?_); simp only [go_sem, Int.reduceEq, Int.reduceLT, Nat.reduceEqDiff, Nat.reduceAdd, Nat.reduceMul, Nat.reduceLT, Nat.reduceLeDiff, Int.reduceToNat]
              refine vwp_ret ?_
              simp only [go_sem, Int.reduceEq, Int.reduceLT, Nat.reduceEqDiff, Nat.reduceAdd, Nat.reduceMul, Nat.reduceLT, Nat.reduceLeDiff, Int.reduceToNat]
              rw [if_neg k123, if_neg k4, if_neg k5]
              exact LeV.refl _
def uniqT (s : Bs) : Bool := (List.range s.length).all fun i => decide (Lib.indexByte s (s.getD i 0) = (i : Int))
structure ParT where
  size : Int
  cls : Bs
def parC (p : ParT) : List V := [.int .i64 p.size, .str p.cls]
def partT (p : ParT) : Bool := sizT p.size && plainT p.cls 8 && uniqT p.cls
theorem IndexByte_spec (s : Bs) (c : UInt8) : Spec Tryz.prog 73 [.str s, .int .u8 (c.toNat : Int)] (.int .i64 (Lib.indexByte s c)) := by
  refine spec_lib Tryz.func73 rfl (by decide) rfl fun S w vs hG hv => ?_
  obtain ⟨u, v, rfl, h1, h2⟩ := repL2 hv
  cases h1; cases h2
  refine (Tryz.strings_IndexByte _ _ w).mono ?_
  rintro e w' ⟨rfl, rfl⟩
  refine ⟨_, rfl, Chg.refl _ _, fun S' => ?_⟩
  show Value.int .i64 (Lib.indexByte s (((c.toNat : Int).toNat).toUInt8)) = _
  rw [Int.toNat_natCast]
  congr 2
  exact UInt8.ofNat_toNat
theorem plain_len {s : Bs} {n : Nat} (h : plainT s n = true) : s.length ≤ n := by
  unfold plainT at h
  simp only [Bool.and_eq_true, decide_eq_true_eq] at h
  exact h.1.2
set_option maxHeartbeats 8000000 in
set_option maxRecDepth 4000 in
theorem valid_spec (p : ParT) : Spec Tryz.prog 46 [.agg (parC p)] (.bool (partT p)) := by
  have hsz := isSize_spec p.size
  have hpl : Spec Tryz.prog 72 [.str p.cls, .int .i64 8] (.bool (plainT p.cls 8)) := plain_spec p.cls 8
  unfold parC partT
  obtain ⟨b1, e1⟩ : ∃ b, sizT p.size = b := ⟨_, rfl⟩
  obtain ⟨b2, e2⟩ : ∃ b, plainT p.cls 8 = b := ⟨_, rfl⟩
  rw [e1] at hsz ⊢
  rw [e2] at hpl ⊢
  cases b1
  · refine spec_of tt_ok Tryz.func46 rfl (by decide) Tryz.ntmps46 (congrArg Array.toList Tryz.results46) (by simp) (by decide) rfl rfl (fun F hF => ?_)
    refine vwp_seq_k fun Na hNa => vreg tt_ok hF rfl ?_; simp only [go_sem, Int.reduceEq, Int.reduceLT, Nat.reduceEqDiff, Nat.reduceAdd, Nat.reduceMul, Nat.reduceLT, Nat.reduceLeDiff, Int.reduceToNat]
    refine hNa _ (VWp.keep [1] [1] ?_); simp only [go_sem, Int.reduceEq, Int.reduceLT, Nat.reduceEqDiff, Nat.reduceAdd, Nat.reduceMul, Nat.reduceLT, Nat.reduceLeDiff, Int.reduceToNat]
    refine vwp_seq_k fun Nb hNb => ?_
    refine vwp_seq_k fun Nc hNc => vreg tt_ok hF rfl ?_; simp only [go_sem, Int.reduceEq, Int.reduceLT, Nat.reduceEqDiff, Nat.reduceAdd, Nat.reduceMul, Nat.reduceLT, Nat.reduceLeDiff, Int.reduceToNat]
    refine .inl ⟨_, hsz, ?_⟩; try simp only [go_sem, Int.reduceEq, Int.reduceLT, Nat.reduceEqDiff, Nat.reduceAdd, Nat.reduceMul, Nat.reduceLT, Nat.reduceLeDiff, Int.reduceToNat]
    refine hNc _ (VWp.keep [1,13] [1] ?_); simp only [go_sem, Int.reduceEq, Int.reduceLT, Nat.reduceEqDiff, Nat.reduceAdd, Nat.reduceMul, Nat.reduceLT, Nat.reduceLeDiff, Int.reduceToNat]
    refine vif rfl ⟨fun ht => ?_, (fun hf => by cases hf)⟩
    refine vwp_seq_k fun Nd hNd => vreg tt_ok hF rfl ?_; simp only [go_sem, Int.reduceEq, Int.reduceLT, Nat.reduceEqDiff, Nat.reduceAdd, Nat.reduceMul, Nat.reduceLT, Nat.reduceLeDiff, Int.reduceToNat]
    refine hNd _ (VWp.keep [2] [] ?_); simp only [go_sem, Int.reduceEq, Int.reduceLT, Nat.reduceEqDiff, Nat.reduceAdd, Nat.reduceMul, Nat.reduceLT, Nat.reduceLeDiff, Int.reduceToNat]
    refine vwp_ret ?_
    simp only [go_sem, Int.reduceEq, Int.reduceLT, Nat.reduceEqDiff, Nat.reduceAdd, Nat.reduceMul, Nat.reduceLT, Nat.reduceLeDiff, Int.reduceToNat]
    exact LeV.refl _
  · cases b2
    · refine spec_of tt_ok Tryz.func46 rfl (by decide) Tryz.ntmps46 (congrArg Array.toList Tryz.results46) (by simp) (by decide) rfl rfl (fun F hF => ?_)
      refine vwp_seq_k fun Na hNa => vreg tt_ok hF rfl ?_; simp only [go_sem, Int.reduceEq, Int.reduceLT, Nat.reduceEqDiff, Nat.reduceAdd, Nat.reduceMul, Nat.reduceLT, Nat.reduceLeDiff, Int.reduceToNat]
      refine hNa _ (VWp.keep [1] [1] ?_); simp only [go_sem, Int.reduceEq, Int.reduceLT, Nat.reduceEqDiff, Nat.reduceAdd, Nat.reduceMul, Nat.reduceLT, Nat.reduceLeDiff, Int.reduceToNat]
      refine vwp_seq_k fun Nb hNb => ?_
      refine vwp_seq_k fun Nc hNc => vreg tt_ok hF rfl ?_; simp only [go_sem, Int.reduceEq, Int.reduceLT, Nat.reduceEqDiff, Nat.reduceAdd, Nat.reduceMul, Nat.reduceLT, Nat.reduceLeDiff, Int.reduceToNat]
      refine .inl ⟨_, hsz, ?_⟩; try simp only [go_sem, Int.reduceEq, Int.reduceLT, Nat.reduceEqDiff, Nat.reduceAdd, Nat.reduceMul, Nat.reduceLT, Nat.reduceLeDiff, Int.reduceToNat]
      refine .inl ⟨_, hpl, ?_⟩; try simp only [go_sem, Int.reduceEq, Int.reduceLT, Nat.reduceEqDiff, Nat.reduceAdd, Nat.reduceMul, Nat.reduceLT, Nat.reduceLeDiff, Int.reduceToNat]
      refine hNc _ (VWp.keep [1,13] [1] ?_); simp only [go_sem, Int.reduceEq, Int.reduceLT, Nat.reduceEqDiff, Nat.reduceAdd, Nat.reduceMul, Nat.reduceLT, Nat.reduceLeDiff, Int.reduceToNat]
      refine vif rfl ⟨fun ht => ?_, (fun hf => by cases hf)⟩
      refine vwp_seq_k fun Nd hNd => vreg tt_ok hF rfl ?_; simp only [go_sem, Int.reduceEq, Int.reduceLT, Nat.reduceEqDiff, Nat.reduceAdd, Nat.reduceMul, Nat.reduceLT, Nat.reduceLeDiff, Int.reduceToNat]
      refine hNd _ (VWp.keep [2] [] ?_); simp only [go_sem, Int.reduceEq, Int.reduceLT, Nat.reduceEqDiff, Nat.reduceAdd, Nat.reduceMul, Nat.reduceLT, Nat.reduceLeDiff, Int.reduceToNat]
      refine vwp_ret ?_
      simp only [go_sem, Int.reduceEq, Int.reduceLT, Nat.reduceEqDiff, Nat.reduceAdd, Nat.reduceMul, Nat.reduceLT, Nat.reduceLeDiff, Int.reduceToNat]
      exact LeV.refl _
    · have hlen := plain_len e2
      refine spec_of tt_ok Tryz.func46 rfl (by decide) Tryz.ntmps46 (congrArg Array.toList Tryz.results46) (by simp) (by decide) rfl rfl (fun F hF => ?_)
      refine vwp_seq_k fun Na hNa => vreg tt_ok hF rfl ?_; simp only [go_sem, Int.reduceEq, Int.reduceLT, Nat.reduceEqDiff, Nat.reduceAdd, Nat.reduceMul, Nat.reduceLT, Nat.reduceLeDiff, Int.reduceToNat]
      refine hNa _ (VWp.keep [1] [1] ?_); simp only [go_sem, Int.reduceEq, Int.reduceLT, Nat.reduceEqDiff, Nat.reduceAdd, Nat.reduceMul, Nat.reduceLT, Nat.reduceLeDiff, Int.reduceToNat]
      refine vwp_seq_k fun Nb hNb => ?_
      refine vwp_seq_k fun Nc hNc => vreg tt_ok hF rfl ?_; simp only [go_sem, Int.reduceEq, Int.reduceLT, Nat.reduceEqDiff, Nat.reduceAdd, Nat.reduceMul, Nat.reduceLT, Nat.reduceLeDiff, Int.reduceToNat]
      refine .inl ⟨_, hsz, ?_⟩; try simp only [go_sem, Int.reduceEq, Int.reduceLT, Nat.reduceEqDiff, Nat.reduceAdd, Nat.reduceMul, Nat.reduceLT, Nat.reduceLeDiff, Int.reduceToNat]
      refine .inl ⟨_, hpl, ?_⟩; try simp only [go_sem, Int.reduceEq, Int.reduceLT, Nat.reduceEqDiff, Nat.reduceAdd, Nat.reduceMul, Nat.reduceLT, Nat.reduceLeDiff, Int.reduceToNat]
      refine hNc _ (VWp.keep [1,13] [1] ?_); simp only [go_sem, Int.reduceEq, Int.reduceLT, Nat.reduceEqDiff, Nat.reduceAdd, Nat.reduceMul, Nat.reduceLT, Nat.reduceLeDiff, Int.reduceToNat]
      refine vif rfl ⟨(fun ht => by cases ht), fun hf => ?_⟩
      refine vwp_skip (hNb _ ?_)
      refine vwp_seq_k fun Ne hNe => ?_
      refine vwp_seq_k fun Nf hNf => vreg tt_ok hF rfl ?_; simp only [go_sem, Int.reduceEq, Int.reduceLT, Nat.reduceEqDiff, Nat.reduceAdd, Nat.reduceMul, Nat.reduceLT, Nat.reduceLeDiff, Int.reduceToNat]
      refine hNf _ (VWp.keep [1,16,17] [1] ?_); simp only [go_sem, Int.reduceEq, Int.reduceLT, Nat.reduceEqDiff, Nat.reduceAdd, Nat.reduceMul, Nat.reduceLT, Nat.reduceLeDiff, Int.reduceToNat]
      refine vwp_block (vloop (fun k : Nat => [(1, .ptr 1 0), (16, .int .i64 (p.cls.length : Int)), (17, .int .i64 (k : Int))]) (fun _ => [(1, .box 65 [.int .i64 p.size, .str p.cls])]) (fun k => k ≤ p.cls.length ∧ ∀ j, j < k → Lib.indexByte p.cls (p.cls.getD j 0) = (j : Int)) (fun k => p.cls.length - k) 0 ⟨Nat.zero_le _, fun j h => absurd h (by omega)⟩ (by simp only [go_sem, Int.reduceEq, Int.reduceLT, Nat.reduceEqDiff, Nat.reduceAdd, Nat.reduceMul, Nat.reduceLT, Nat.reduceLeDiff, Int.reduceToNat]) ?_)
      rintro k ⟨hk, hall⟩
      refine vwp_seq_k fun Ng hNg => vreg tt_ok hF rfl ?_; simp only [go_sem, Int.reduceEq, Int.reduceLT, Nat.reduceEqDiff, Nat.reduceAdd, Nat.reduceMul, Nat.reduceLT, Nat.reduceLeDiff, Int.reduceToNat]
      refine hNg _ (VWp.keep [1,16,17,18] [1] ?_); simp only [go_sem, Int.reduceEq, Int.reduceLT, Nat.reduceEqDiff, Nat.reduceAdd, Nat.reduceMul, Nat.reduceLT, Nat.reduceLeDiff, Int.reduceToNat]
      refine vwp_seq_k fun Nh hNh => ?_
      refine vif rfl ⟨fun ht => ?_, fun hf => ?_⟩
      · have hlt : k < p.cls.length := by have := of_decide_eq_true ht; omega
        have hix := IndexByte_spec p.cls (p.cls.getD k 0)
        refine vwp_skip (hNh _ ?_)
        refine vwp_seq_k fun Ni hNi => ?_
        refine vwp_block ?_
        refine vwp_seq_k fun Nj hNj => vreg tt_ok hF rfl ?_; simp only [go_sem, Int.reduceEq, Int.reduceLT, Nat.reduceEqDiff, Nat.reduceAdd, Nat.reduceMul, Nat.reduceLT, Nat.reduceLeDiff, Int.reduceToNat]
        refine hNj _ (VWp.keep [1,3,16,17] [1] ?_); simp only [go_sem, Int.reduceEq, Int.reduceLT, Nat.reduceEqDiff, Nat.reduceAdd, Nat.reduceMul, Nat.reduceLT, Nat.reduceLeDiff, Int.reduceToNat]
        refine vwp_seq_k fun Nk hNk => vregd tt_ok mixed hF rfl (by kernel_rfl) (by kernel_rfl) ?_; simp only [go_sem, Int.reduceEq, Int.reduceLT, Nat.reduceEqDiff, Nat.reduceAdd, Nat.reduceMul, Nat.reduceLT, Nat.reduceLeDiff, Int.reduceToNat]
        refine ⟨⟨by omega, by omega⟩, ?_⟩
        refine .inl ⟨_, hix, ?_⟩; try simp only [go_sem, Int.reduceEq, Int.reduceLT, Nat.reduceEqDiff, Nat.reduceAdd, Nat.reduceMul, Nat.reduceLT, Nat.reduceLeDiff, Int.reduceToNat]
        refine hNk _ (VWp.keep [1,16,17,28] [1] ?_); simp only [go_sem, Int.reduceEq, Int.reduceLT, Nat.reduceEqDiff, Nat.reduceAdd, Nat.reduceMul, Nat.reduceLT, Nat.reduceLeDiff, Int.reduceToNat]
        refine vif rfl ⟨fun ht2 => ?_, fun hf2 => ?_⟩
        · have hne : ¬ Lib.indexByte p.cls (p.cls.getD k 0) = (k : Int) := by simpa using ht2
          have hu : uniqT p.cls = false := by
            rw [← Bool.not_eq_true]; intro q
            have := List.all_eq_true.1 q k (List.mem_range.2 hlt)
            exact hne (of_decide_eq_true this)
          rw [hu]
          refine vwp_seq_k fun Nl hNl => vreg tt_ok hF rfl ?_; simp only [go_sem, Int.reduceEq, Int.reduceLT, Nat.reduceEqDiff, Nat.reduceAdd, Nat.reduceMul, Nat.reduceLT, Nat.reduceLeDiff, Int.reduceToNat]
          refine hNl _ (VWp.keep [2] [] ?_); simp only [go_sem, Int.reduceEq, Int.reduceLT, Nat.reduceEqDiff, Nat.reduceAdd, Nat.reduceMul, Nat.reduceLT, Nat.reduceLeDiff, Int.reduceToNat]
          refine vwp_ret ?_
          simp only [go_sem, Int.reduceEq, Int.reduceLT, Nat.reduceEqDiff, Nat.reduceAdd, Nat.reduceMul, Nat.reduceLT, Nat.reduceLeDiff, Int.reduceToNat]
          exact LeV.refl _
        · have heq : Lib.indexByte p.cls (p.cls.getD k 0) = (k : Int) := by simpa using hf2
          refine vwp_skip (hNi _ ?_)
          refine vreg tt_ok hF rfl ?_; simp only [go_sem, Int.reduceEq, Int.reduceLT, Nat.reduceEqDiff, Nat.reduceAdd, Nat.reduceMul, Nat.reduceLT, Nat.reduceLeDiff, Int.reduceToNat]
          rw [wrap_i64 (by omega) (by omega)]
          refine ⟨k + 1, ⟨by omega, fun j hj => ?_⟩, by omega, by simp⟩
          rcases Nat.lt_or_ge j k with q | q
          · exact hall j q
          · have : j = k := by omega
            subst this; exact heq
      · have hke : k = p.cls.length := by have := of_decide_eq_false hf; omega
        have hu : uniqT p.cls = true := List.all_eq_true.2 fun j hj => decide_eq_true (hall j (by rw [List.mem_range] at hj; omega))
        refine vwp_exit ?_
        simp only [go_sem, Int.reduceEq, Int.reduceLT, Nat.reduceEqDiff, Nat.reduceAdd, Nat.reduceMul, Nat.reduceLT, Nat.reduceLeDiff, Int.reduceToNat]
        refine hNe _ (VWp.keepR [] [] tt_ok hF rfl fun Nm hNm => ?_); simp only [go_sem, Int.reduceEq, Int.reduceLT, Nat.reduceEqDiff, Nat.reduceAdd, Nat.reduceMul, Nat.reduceLT, Nat.reduceLeDiff, Int.reduceToNat]
        refine hNm _ (VWp.keep [2] [] ?_); simp only [go_sem, Int.reduceEq, Int.reduceLT, Nat.reduceEqDiff, Nat.reduceAdd, Nat.reduceMul, Nat.reduceLT, Nat.reduceLeDiff, Int.reduceToNat]
        refine vwp_ret ?_
        simp only [go_sem, Int.reduceEq, Int.reduceLT, Nat.reduceEqDiff, Nat.reduceAdd, Nat.reduceMul, Nat.reduceLT, Nat.reduceLeDiff, Int.reduceToNat]
        first | exact LeV.refl _ | (rw [hu]; exact LeV.refl _)
end Go.Proofs.YtedbbinlcdgkoaaGreatDoor

/- Layer 19: Check. -/
namespace Go.Proofs.YtedbbinlcdgkoaaGreatDoor
open Go.RowKit
-- FUSE
-- LESS
set_option linter.unusedVariables false
set_option linter.unusedSimpArgs false
structure CfgT where
  us : List UniT
  store : Int
  ps : List ParT
def cfgC (c : CfgT) : List V := [.sl 5 (c.us.map uniC), .int .i64 c.store, .sl 2 (c.ps.map parC)]
def sumT (l : List ParT) : Int := l.foldl (fun z p => z + p.size) 8192
def serM : List UniT → List (Bs × V) → List (Bs × V)
  | [], m => m
  | u :: us, m => serM us (setM m u.ser (.bool (!decide (u.ser = []))))
theorem serM_snoc (u : UniT) : ∀ (us : List UniT) (m : List (Bs × V)), serM (us ++ [u]) m = setM (serM us m) u.ser (.bool (!decide (u.ser = [])))
  | [], m => rfl
  | v :: us, m => serM_snoc u us _
theorem find_set (key k : Bs) (v : V) : ∀ m : List (Bs × V), findM (setM m k v) key = if key = k then some v else findM m key
  | [] => by
    unfold setM findM
    by_cases e : key = k
    · rw [if_pos e, if_pos e]
    · rw [if_neg e, if_neg e]; rfl
  | (a, x) :: m => by
    unfold setM
    by_cases e : k = a
    · subst e
      rw [if_pos rfl]
      unfold findM
      by_cases e2 : key = k
      · rw [if_pos e2, if_pos e2]
      · rw [if_neg e2, if_neg e2, if_neg e2]
    · rw [if_neg e]
      unfold findM
      by_cases e2 : key = a
      · have : key ≠ k := fun q => e (q.symm.trans e2)
        rw [if_pos e2, if_neg this, if_pos e2]
      · rw [if_neg e2, if_neg e2]; exact find_set key k v m
theorem snoc_ind {α : Type} {P : List α → Prop} (h0 : P []) (h1 : ∀ l a, P l → P (l ++ [a])) (l : List α) : P l := by
  rw [← List.reverse_reverse l]
  induction l.reverse with
  | nil => exact h0
  | cons a t ih => rw [List.reverse_cons]; exact h1 _ _ ih
theorem serM_find (key : Bs) (us : List UniT) : (findM (serM us []) key).getD (.bool false) = .bool (us.any fun u => !decide (u.ser = []) && decide (u.ser = key)) := by
  refine snoc_ind (P := fun us => (findM (serM us []) key).getD (.bool false) = .bool (us.any fun u => !decide (u.ser = []) && decide (u.ser = key))) rfl (fun us u ih => ?_) us
  rw [serM_snoc, find_set, List.any_append]
  simp only [List.any_cons, List.any_nil, Bool.or_false]
  by_cases e : key = u.ser
  · subst e
    rw [if_pos rfl]
    simp only [Option.getD_some, decide_true, Bool.and_true]
    by_cases q : u.ser = []
    · rw [q]
      have : (us.any fun u => !decide (u.ser = []) && decide (u.ser = [])) = false := by
        rw [List.any_eq_false]; intro x _; simp
      rw [this]; rfl
    · rw [decide_eq_false q]; simp
  · rw [if_neg e, ih, decide_eq_false (fun q => e (Eq.symm q)), Bool.and_false, Bool.or_false]
def unit1T (us : List UniT) (k : Nat) : Bool := unitT (us.getD k ⟨0, 0, [], 0, 0⟩) && (decide (k = 0) || !decide ((us.getD k ⟨0, 0, [], 0, 0⟩).addr ≤ (us.getD (k - 1) ⟨0, 0, [], 0, 0⟩).addr)) &&
  !((us.take k).any fun u => !decide (u.ser = []) && decide (u.ser = (us.getD k ⟨0, 0, [], 0, 0⟩).ser))
def unitsT (us : List UniT) : Bool := (List.range us.length).all (unit1T us)
def formT (c : CfgT) : Bool := !(!sizT c.store || decide ((c.ps.length : Int) < 1) || decide ((4 : Int) < c.ps.length) || decide ((16 : Int) < c.us.length))
def cfgT (c : CfgT) : Bool := formT c && c.ps.all partT && unitsT c.us && !decide (c.store < sumT c.ps)
def chkE (c : CfgT) : Int := if cfgT c then 0 else 190
theorem uni_row {us : List UniT} {k : Nat} (h : k < us.length) : (us.map uniC).getD k [] = [.int .i64 us[k].addr, .int .i64 us[k].kind, .str us[k].ser, .int .i64 us[k].cyl, .int .i64 us[k].head] := by
  simp [List.getD_eq_getElem?_getD, List.getElem?_eq_getElem h, uniC]
theorem par_row {ps : List ParT} {k : Nat} (h : k < ps.length) : (ps.map parC).getD k [] = [.int .i64 ps[k].size, .str ps[k].cls] := by
  simp [List.getD_eq_getElem?_getD, List.getElem?_eq_getElem h, parC]
theorem sum_step (ps : List ParT) (k : Nat) (h : k < ps.length) : sumT (ps.take (k + 1)) = sumT (ps.take k) + ps[k].size := by
  unfold sumT; rw [List.take_succ_eq_append_getElem h, List.foldl_append]; rfl
theorem sum_bound : ∀ (l : List ParT) (z : Int), (∀ p ∈ l, partT p = true) → z ≤ l.foldl (fun z p => z + p.size) z ∧ l.foldl (fun z p => z + p.size) z ≤ z + 65536 * l.length
  | [], z, _ => by simp
  | p :: l, z, h => by
    have hp := h p List.mem_cons_self
    unfold partT at hp
    simp only [Bool.and_eq_true] at hp
    have hs := hp.1.1
    unfold sizT at hs
    simp only [Bool.and_eq_true, decide_eq_true_eq] at hs
    have := sum_bound l (z + p.size) (fun q hq => h q (List.mem_cons_of_mem _ hq))
    simp only [List.foldl_cons, List.length_cons]
    omega
set_option maxHeartbeats 16000000 in
set_option maxRecDepth 4000 in
theorem Check_spec (c : CfgT) : Spec Tryz.prog 19 [.agg (cfgC c)] (.int .i64 (chkE c)) := by
  have hsz := isSize_spec c.store
  unfold cfgC
  obtain ⟨b0, e0⟩ : ∃ b, formT c = b := ⟨_, rfl⟩
  have he0 := e0
  unfold formT at he0
  obtain ⟨b1, e1⟩ : ∃ b, sizT c.store = b := ⟨_, rfl⟩
  obtain ⟨b2, e2⟩ : ∃ b, decide ((c.ps.length : Int) < 1) = b := ⟨_, rfl⟩
  obtain ⟨b3, e3⟩ : ∃ b, decide ((4 : Int) < c.ps.length) = b := ⟨_, rfl⟩
  obtain ⟨b4, e4⟩ : ∃ b, decide ((16 : Int) < c.us.length) = b := ⟨_, rfl⟩
  rw [e1] at hsz
  rw [e1, e2, e3, e4] at he0
  refine spec_of tt_ok Tryz.func19 rfl (by decide) Tryz.ntmps19 (congrArg Array.toList Tryz.results19) (by simp) (by decide) rfl rfl (fun F hF => ?_)
  refine vwp_seq_k fun Na hNa => vreg tt_ok hF rfl ?_; simp only [go_sem, Int.reduceEq, Int.reduceLT, Nat.reduceEqDiff, Nat.reduceAdd, Nat.reduceMul, Nat.reduceLT, Nat.reduceLeDiff, Int.reduceToNat]
  refine hNa _ (VWp.keep [1] [1] ?_); simp only [go_sem, Int.reduceEq, Int.reduceLT, Nat.reduceEqDiff, Nat.reduceAdd, Nat.reduceMul, Nat.reduceLT, Nat.reduceLeDiff, Int.reduceToNat]
  refine vmeet (fun _ : Unit => [(1, .ptr 1 0)]) (fun _ => [(1, .box 25 [.sl 5 (c.us.map uniC), .int .i64 c.store, .sl 2 (c.ps.map parC)])]) (fun _ => formT c = true) ?_ ?_
  · have hno : b0 = false → chkE c = 190 := fun q => by unfold chkE cfgT; rw [e0, q]; rfl
    rcases hb : b0 with _ | _
    · have hno := hno hb
      rw [hno]
      have hsome : b1 = false ∨ (b1 = true ∧ b2 = true) ∨ (b1 = true ∧ b2 = false ∧ b3 = true) ∨ (b1 = true ∧ b2 = false ∧ b3 = false ∧ b4 = true) := by
        rw [hb] at he0; cases b1 <;> cases b2 <;> cases b3 <;> cases b4 <;> simp at he0 ⊢
      rcases hsome with rfl | ⟨rfl, rfl⟩ | ⟨rfl, rfl, rfl⟩ | ⟨rfl, rfl, rfl, rfl⟩
      all_goals
        refine vwp_seq_k fun Nc hNc => vreg tt_ok hF rfl ?_; simp only [go_sem, Int.reduceEq, Int.reduceLT, Nat.reduceEqDiff, Nat.reduceAdd, Nat.reduceMul, Nat.reduceLT, Nat.reduceLeDiff, Int.reduceToNat]
        refine .inl ⟨_, hsz, ?_⟩; try simp only [go_sem, Int.reduceEq, Int.reduceLT, Nat.reduceEqDiff, Nat.reduceAdd, Nat.reduceMul, Nat.reduceLT, Nat.reduceLeDiff, Int.reduceToNat]
        try simp only [e2, e3, e4, go_sem, Int.reduceEq, Int.reduceLT, Nat.reduceEqDiff, Nat.reduceAdd, Nat.reduceMul, Nat.reduceLT, Nat.reduceLeDiff, Int.reduceToNat]
        refine hNc _ (VWp.keep [1,30] [1] ?_); simp only [go_sem, Int.reduceEq, Int.reduceLT, Nat.reduceEqDiff, Nat.reduceAdd, Nat.reduceMul, Nat.reduceLT, Nat.reduceLeDiff, Int.reduceToNat]
        refine vif rfl ⟨fun ht => ?_, (fun hf => by first | cases hf | (rw [e4] at hf; cases hf))⟩
        refine vwp_seq_k fun Nd hNd => vreg tt_ok hF rfl ?_; simp only [go_sem, Int.reduceEq, Int.reduceLT, Nat.reduceEqDiff, Nat.reduceAdd, Nat.reduceMul, Nat.reduceLT, Nat.reduceLeDiff, Int.reduceToNat]
        refine hNd _ (VWp.keep [2] [] ?_); simp only [go_sem, Int.reduceEq, Int.reduceLT, Nat.reduceEqDiff, Nat.reduceAdd, Nat.reduceMul, Nat.reduceLT, Nat.reduceLeDiff, Int.reduceToNat]
        refine vwp_ret ?_
        simp only [hno, go_sem, Int.reduceEq, Int.reduceLT, Nat.reduceEqDiff, Nat.reduceAdd, Nat.reduceMul, Nat.reduceLT, Nat.reduceLeDiff, Int.reduceToNat]
        exact LeV.refl _
    · obtain ⟨rfl, rfl, rfl, rfl⟩ : b1 = true ∧ b2 = false ∧ b3 = false ∧ b4 = false := by
        rw [hb] at he0; cases b1 <;> cases b2 <;> cases b3 <;> cases b4 <;> simp at he0 ⊢
      refine vwp_seq_k fun Nc hNc => vreg tt_ok hF rfl ?_; simp only [go_sem, Int.reduceEq, Int.reduceLT, Nat.reduceEqDiff, Nat.reduceAdd, Nat.reduceMul, Nat.reduceLT, Nat.reduceLeDiff, Int.reduceToNat]
      refine .inl ⟨_, hsz, ?_⟩; try simp only [go_sem, Int.reduceEq, Int.reduceLT, Nat.reduceEqDiff, Nat.reduceAdd, Nat.reduceMul, Nat.reduceLT, Nat.reduceLeDiff, Int.reduceToNat]
      try simp only [e2, e3, e4, go_sem, Int.reduceEq, Int.reduceLT, Nat.reduceEqDiff, Nat.reduceAdd, Nat.reduceMul, Nat.reduceLT, Nat.reduceLeDiff, Int.reduceToNat]
      refine hNc _ (VWp.keep [1,30] [1] ?_); simp only [go_sem, Int.reduceEq, Int.reduceLT, Nat.reduceEqDiff, Nat.reduceAdd, Nat.reduceMul, Nat.reduceLT, Nat.reduceLeDiff, Int.reduceToNat]
      refine vif rfl ⟨(fun ht => by first | cases ht | (rw [e4] at ht; cases ht)), fun hf => ?_⟩
      exact vwp_skip ⟨(), by rw [e0, hb], by simp only [go_sem, Int.reduceEq, Int.reduceLT, Nat.reduceEqDiff, Nat.reduceAdd, Nat.reduceMul, Nat.reduceLT, Nat.reduceLeDiff, Int.reduceToNat]⟩
  · intro _ hform
    have hfo := hform
    unfold formT at hfo
    simp only [Bool.not_eq_true', Bool.or_eq_false_iff, decide_eq_false_iff_not] at hfo
    obtain ⟨⟨⟨_, g2⟩, g3⟩, g4⟩ := hfo
    refine vwp_seq_k fun Ne hNe => vreg tt_ok hF rfl ?_; simp only [go_sem, Int.reduceEq, Int.reduceLT, Nat.reduceEqDiff, Nat.reduceAdd, Nat.reduceMul, Nat.reduceLT, Nat.reduceLeDiff, Int.reduceToNat]
    refine hNe _ (VWp.keep [1,3] [1] ?_); simp only [go_sem, Int.reduceEq, Int.reduceLT, Nat.reduceEqDiff, Nat.reduceAdd, Nat.reduceMul, Nat.reduceLT, Nat.reduceLeDiff, Int.reduceToNat]
    refine vwp_seq_k fun Nf hNf => ?_
    refine vwp_seq_k fun Ng hNg => vreg tt_ok hF rfl ?_; simp only [go_sem, Int.reduceEq, Int.reduceLT, Nat.reduceEqDiff, Nat.reduceAdd, Nat.reduceMul, Nat.reduceLT, Nat.reduceLeDiff, Int.reduceToNat]
    refine hNg _ (VWp.keep [1,3,32,33,34] [1] ?_); simp only [go_sem, Int.reduceEq, Int.reduceLT, Nat.reduceEqDiff, Nat.reduceAdd, Nat.reduceMul, Nat.reduceLT, Nat.reduceLeDiff, Int.reduceToNat]
    refine vwp_block (vloop (fun k : Nat => [(1, .ptr 1 0), (3, .int .i64 (sumT (c.ps.take k))), (32, .sl 2 (c.ps.map parC)), (33, .int .i64 (c.ps.length : Int)), (34, .int .i64 (k : Int))])
      (fun _ => [(1, .box 25 [.sl 5 (c.us.map uniC), .int .i64 c.store, .sl 2 (c.ps.map parC)])]) (fun k => k ≤ c.ps.length ∧ ∀ p ∈ c.ps.take k, partT p = true) (fun k => c.ps.length - k) 0 ⟨Nat.zero_le _, fun p hp => by cases hp⟩ (by simp only [List.take_zero, go_sem, Int.reduceEq, Int.reduceLT, Nat.reduceEqDiff, Nat.reduceAdd, Nat.reduceMul, Nat.reduceLT, Nat.reduceLeDiff, Int.reduceToNat]; try rfl) ?_)
    rintro k ⟨hk, hall⟩
    refine vwp_seq_k fun Nh hNh => vreg tt_ok hF rfl ?_; simp only [go_sem, Int.reduceEq, Int.reduceLT, Nat.reduceEqDiff, Nat.reduceAdd, Nat.reduceMul, Nat.reduceLT, Nat.reduceLeDiff, Int.reduceToNat]
    refine hNh _ (VWp.keep [1,3,32,33,34,35] [1] ?_); simp only [go_sem, Int.reduceEq, Int.reduceLT, Nat.reduceEqDiff, Nat.reduceAdd, Nat.reduceMul, Nat.reduceLT, Nat.reduceLeDiff, Int.reduceToNat]
    refine vwp_seq_k fun Ni hNi => ?_
    refine vif rfl ⟨fun ht => ?_, fun hf => ?_⟩
    · have hlt : k < c.ps.length := by have := of_decide_eq_true ht; omega
      have hget := par_row hlt
      have hva : Spec Tryz.prog 46 [.agg [.int .i64 c.ps[k].size, .str c.ps[k].cls]] (.bool (partT c.ps[k])) := valid_spec c.ps[k]
      have hstep := sum_step c.ps k hlt
      refine vwp_skip (hNi _ ?_)
      refine vwp_seq_k fun Nj hNj => ?_
      refine vwp_block ?_
      refine vwp_seq_k fun Nk hNk => vreg tt_ok hF rfl ?_; simp only [hget, List.length_map, Int.toNat_natCast, go_sem, Int.reduceEq, Int.reduceLT, Nat.reduceEqDiff, Nat.reduceAdd, Nat.reduceMul, Nat.reduceLT, Nat.reduceLeDiff, Int.reduceToNat]
      refine ⟨⟨by omega, by omega⟩, ?_⟩
      refine hNk _ (VWp.keep [1,3,5,32,33,34] [1,5] ?_); simp only [go_sem, Int.reduceEq, Int.reduceLT, Nat.reduceEqDiff, Nat.reduceAdd, Nat.reduceMul, Nat.reduceLT, Nat.reduceLeDiff, Int.reduceToNat]
      refine vwp_seq_k fun Nl hNl => ?_
      rcases hpv : partT c.ps[k] with _ | _
      · have hno : chkE c = 190 := by
          unfold chkE cfgT
          have : c.ps.all partT = false := by
            rw [← Bool.not_eq_true]; intro q
            rw [List.all_eq_true.1 q _ (List.getElem_mem hlt)] at hpv; cases hpv
          rw [this, Bool.and_false]; rfl
        rw [hpv] at hva
        refine vwp_seq_k fun Nm hNm => vreg tt_ok hF rfl ?_; simp only [go_sem, Int.reduceEq, Int.reduceLT, Nat.reduceEqDiff, Nat.reduceAdd, Nat.reduceMul, Nat.reduceLT, Nat.reduceLeDiff, Int.reduceToNat]
        refine .inl ⟨_, hva, ?_⟩; try simp only [go_sem, Int.reduceEq, Int.reduceLT, Nat.reduceEqDiff, Nat.reduceAdd, Nat.reduceMul, Nat.reduceLT, Nat.reduceLeDiff, Int.reduceToNat]
        refine hNm _ (VWp.keep [1,3,5,32,33,34,40] [1,5] ?_); simp only [go_sem, Int.reduceEq, Int.reduceLT, Nat.reduceEqDiff, Nat.reduceAdd, Nat.reduceMul, Nat.reduceLT, Nat.reduceLeDiff, Int.reduceToNat]
        refine vif rfl ⟨fun ht => ?_, (fun hf => by cases hf)⟩
        refine vwp_seq_k fun Nn hNn => vreg tt_ok hF rfl ?_; simp only [go_sem, Int.reduceEq, Int.reduceLT, Nat.reduceEqDiff, Nat.reduceAdd, Nat.reduceMul, Nat.reduceLT, Nat.reduceLeDiff, Int.reduceToNat]
        refine hNn _ (VWp.keep [2] [] ?_); simp only [go_sem, Int.reduceEq, Int.reduceLT, Nat.reduceEqDiff, Nat.reduceAdd, Nat.reduceMul, Nat.reduceLT, Nat.reduceLeDiff, Int.reduceToNat]
        refine vwp_ret ?_
        simp only [hno, go_sem, Int.reduceEq, Int.reduceLT, Nat.reduceEqDiff, Nat.reduceAdd, Nat.reduceMul, Nat.reduceLT, Nat.reduceLeDiff, Int.reduceToNat]
        exact LeV.refl _
      · rw [hpv] at hva
        refine vwp_seq_k fun Nm hNm => vreg tt_ok hF rfl ?_; simp only [go_sem, Int.reduceEq, Int.reduceLT, Nat.reduceEqDiff, Nat.reduceAdd, Nat.reduceMul, Nat.reduceLT, Nat.reduceLeDiff, Int.reduceToNat]
        refine .inl ⟨_, hva, ?_⟩; try simp only [go_sem, Int.reduceEq, Int.reduceLT, Nat.reduceEqDiff, Nat.reduceAdd, Nat.reduceMul, Nat.reduceLT, Nat.reduceLeDiff, Int.reduceToNat]
        refine hNm _ (VWp.keep [1,3,5,32,33,34,40] [1,5] ?_); simp only [go_sem, Int.reduceEq, Int.reduceLT, Nat.reduceEqDiff, Nat.reduceAdd, Nat.reduceMul, Nat.reduceLT, Nat.reduceLeDiff, Int.reduceToNat]
        refine vif rfl ⟨(fun ht => by cases ht), fun hf => ?_⟩
        refine vwp_skip (hNl _ ?_)
        have hall2 : ∀ p ∈ c.ps.take (k + 1), partT p = true := fun p hp => by
          rw [List.take_succ_eq_append_getElem hlt] at hp
          rcases List.mem_append.1 hp with q | q
          · exact hall p q
          · rw [List.mem_singleton] at q; rw [q]; exact hpv
        have hbd := sum_bound (c.ps.take (k + 1)) 8192 hall2
        have hbd2 : (c.ps.take (k + 1)).length ≤ 4 := by rw [List.length_take]; omega
        have hbd3 : 8192 ≤ sumT (c.ps.take (k + 1)) ∧ sumT (c.ps.take (k + 1)) ≤ 8192 + 65536 * 4 := by unfold sumT; omega
        refine vreg tt_ok hF rfl ?_; simp only [go_sem, Int.reduceEq, Int.reduceLT, Nat.reduceEqDiff, Nat.reduceAdd, Nat.reduceMul, Nat.reduceLT, Nat.reduceLeDiff, Int.reduceToNat]
        rw [← hstep, wrap_i64 (by omega) (by omega)]
        refine hNj _ (VWp.keep [1,3,32,33,34] [1] ?_); simp only [go_sem, Int.reduceEq, Int.reduceLT, Nat.reduceEqDiff, Nat.reduceAdd, Nat.reduceMul, Nat.reduceLT, Nat.reduceLeDiff, Int.reduceToNat]
        refine vreg tt_ok hF rfl ?_; simp only [go_sem, Int.reduceEq, Int.reduceLT, Nat.reduceEqDiff, Nat.reduceAdd, Nat.reduceMul, Nat.reduceLT, Nat.reduceLeDiff, Int.reduceToNat]
        rw [wrap_i64 (by omega) (by omega)]
        exact ⟨k + 1, ⟨by omega, hall2⟩, by omega, by simp⟩
    · have hke : k = c.ps.length := by have := of_decide_eq_false hf; omega
      subst hke
      rw [List.take_length] at hall
      have hpa : c.ps.all partT = true := List.all_eq_true.2 hall
      have hcf : cfgT c = (unitsT c.us && !decide (c.store < sumT c.ps)) := by unfold cfgT; rw [hform, hpa, Bool.true_and, Bool.true_and]
      refine vwp_exit ?_
      simp only [List.take_length, go_sem, Int.reduceEq, Int.reduceLT, Nat.reduceEqDiff, Nat.reduceAdd, Nat.reduceMul, Nat.reduceLT, Nat.reduceLeDiff, Int.reduceToNat]
      refine hNf _ (VWp.keepR [1,3] [1] tt_ok hF rfl fun No hNo => ?_); simp only [go_sem, Int.reduceEq, Int.reduceLT, Nat.reduceEqDiff, Nat.reduceAdd, Nat.reduceMul, Nat.reduceLT, Nat.reduceLeDiff, Int.reduceToNat]
      refine hNo _ (VWp.keep [1,3,6] [1,46] ?_); simp only [go_sem, Int.reduceEq, Int.reduceLT, Nat.reduceEqDiff, Nat.reduceAdd, Nat.reduceMul, Nat.reduceLT, Nat.reduceLeDiff, Int.reduceToNat]
      refine vwp_seq_k fun Np hNp => ?_
      refine vwp_seq_k fun Nq hNq => vreg tt_ok hF rfl ?_; simp only [go_sem, Int.reduceEq, Int.reduceLT, Nat.reduceEqDiff, Nat.reduceAdd, Nat.reduceMul, Nat.reduceLT, Nat.reduceLeDiff, Int.reduceToNat]
      refine hNq _ (VWp.keep [1,3,6,48,49,50] [1,46] ?_); simp only [go_sem, Int.reduceEq, Int.reduceLT, Nat.reduceEqDiff, Nat.reduceAdd, Nat.reduceMul, Nat.reduceLT, Nat.reduceLeDiff, Int.reduceToNat]
      refine vwp_block (vloop (fun k : Nat => [(1, .ptr 1 0), (3, .int .i64 (sumT c.ps)), (6, .mp 46), (48, .sl 5 (c.us.map uniC)), (49, .int .i64 (c.us.length : Int)), (50, .int .i64 (k : Int))])
        (fun k => [(1, .box 25 [.sl 5 (c.us.map uniC), .int .i64 c.store, .sl 2 (c.ps.map parC)]), (46, .map (serM (c.us.take k) []))]) (fun k => k ≤ c.us.length ∧ ∀ j, j < k → unit1T c.us j = true) (fun k => c.us.length - k) 0 ⟨Nat.zero_le _, fun j h => absurd h (by omega)⟩ (by simp only [List.take_zero, serM, go_sem, Int.reduceEq, Int.reduceLT, Nat.reduceEqDiff, Nat.reduceAdd, Nat.reduceMul, Nat.reduceLT, Nat.reduceLeDiff, Int.reduceToNat]; try rfl) ?_)
      rintro k ⟨hk, hall2⟩
      refine vwp_seq_k fun Nr hNr => vreg tt_ok hF rfl ?_; simp only [go_sem, Int.reduceEq, Int.reduceLT, Nat.reduceEqDiff, Nat.reduceAdd, Nat.reduceMul, Nat.reduceLT, Nat.reduceLeDiff, Int.reduceToNat]
      refine hNr _ (VWp.keep [1,3,6,48,49,50,51] [1,46] ?_); simp only [go_sem, Int.reduceEq, Int.reduceLT, Nat.reduceEqDiff, Nat.reduceAdd, Nat.reduceMul, Nat.reduceLT, Nat.reduceLeDiff, Int.reduceToNat]
      refine vwp_seq_k fun Ns hNs => ?_
      refine vif rfl ⟨fun ht => ?_, fun hf => ?_⟩
      · have hlt : k < c.us.length := by have := of_decide_eq_true ht; omega
        have hget := uni_row hlt
        have hvu : Spec Tryz.prog 47 [.agg [.int .i64 c.us[k].addr, .int .i64 c.us[k].kind, .str c.us[k].ser, .int .i64 c.us[k].cyl, .int .i64 c.us[k].head]] (.bool (unitT c.us[k])) := validUnit_spec c.us[k]
        have hD : c.us.getD k ⟨0, 0, [], 0, 0⟩ = c.us[k] := by simp [List.getD_eq_getElem?_getD, List.getElem?_eq_getElem hlt]
        have hfind := serM_find c.us[k].ser (c.us.take k)
        have hu1 : unit1T c.us k = (unitT c.us[k] && (decide (k = 0) || !decide (c.us[k].addr ≤ (c.us.getD (k - 1) ⟨0, 0, [], 0, 0⟩).addr)) && !((c.us.take k).any fun u => !decide (u.ser = []) && decide (u.ser = c.us[k].ser))) := by unfold unit1T; rw [hD]
        have hbad : unit1T c.us k = false → chkE c = 190 := fun q => by
          unfold chkE
          rw [hcf]
          have : unitsT c.us = false := by
            rw [← Bool.not_eq_true]; intro z
            rw [List.all_eq_true.1 z k (List.mem_range.2 hlt)] at q; cases q
          rw [this]; rfl
        refine vwp_skip (hNs _ ?_)
        refine vwp_seq_k fun Nt hNt => ?_
        refine vwp_block ?_
        refine vwp_seq_k fun Nu hNu => vreg tt_ok hF rfl ?_; simp only [hget, List.length_map, Int.toNat_natCast, go_sem, Int.reduceEq, Int.reduceLT, Nat.reduceEqDiff, Nat.reduceAdd, Nat.reduceMul, Nat.reduceLT, Nat.reduceLeDiff, Int.reduceToNat]
        refine ⟨⟨by omega, by omega⟩, ?_⟩
        refine hNu _ (VWp.keep [1,3,6,7,8,48,49,50] [1,8,46] ?_); simp only [go_sem, Int.reduceEq, Int.reduceLT, Nat.reduceEqDiff, Nat.reduceAdd, Nat.reduceMul, Nat.reduceLT, Nat.reduceLeDiff, Int.reduceToNat]
        refine vwp_seq_k fun Nv hNv => ?_
        refine vwp_seq_k fun Nw hNw => vregd tt_ok mixed hF rfl (by kernel_rfl) (by kernel_rfl) ?_; simp only [go_sem, Int.reduceEq, Int.reduceLT, Nat.reduceEqDiff, Nat.reduceAdd, Nat.reduceMul, Nat.reduceLT, Nat.reduceLeDiff, Int.reduceToNat]
        rcases hv : unitT c.us[k] with _ | _
        · have hno := hbad (by rw [hu1, hv]; rfl)
          rw [hv] at hvu
          refine .inl ⟨_, hvu, ?_⟩; try simp only [go_sem, Int.reduceEq, Int.reduceLT, Nat.reduceEqDiff, Nat.reduceAdd, Nat.reduceMul, Nat.reduceLT, Nat.reduceLeDiff, Int.reduceToNat]
          refine hNw _ (VWp.keep [1,3,6,8,48,49,50,79] [1,8,46] ?_); simp only [go_sem, Int.reduceEq, Int.reduceLT, Nat.reduceEqDiff, Nat.reduceAdd, Nat.reduceMul, Nat.reduceLT, Nat.reduceLeDiff, Int.reduceToNat]
          refine vif rfl ⟨fun ht => ?_, (fun hf => by cases hf)⟩
          refine vwp_seq_k fun Nx hNx => vreg tt_ok hF rfl ?_; simp only [go_sem, Int.reduceEq, Int.reduceLT, Nat.reduceEqDiff, Nat.reduceAdd, Nat.reduceMul, Nat.reduceLT, Nat.reduceLeDiff, Int.reduceToNat]
          refine hNx _ (VWp.keep [2] [] ?_); simp only [go_sem, Int.reduceEq, Int.reduceLT, Nat.reduceEqDiff, Nat.reduceAdd, Nat.reduceMul, Nat.reduceLT, Nat.reduceLeDiff, Int.reduceToNat]
          refine vwp_ret ?_
          simp only [hno, go_sem, Int.reduceEq, Int.reduceLT, Nat.reduceEqDiff, Nat.reduceAdd, Nat.reduceMul, Nat.reduceLT, Nat.reduceLeDiff, Int.reduceToNat]
          exact LeV.refl _
        · rw [hv] at hvu
          rw [hv, Bool.true_and] at hu1
          have hset : serM (c.us.take (k + 1)) [] = setM (serM (c.us.take k) []) c.us[k].ser (.bool (!decide (c.us[k].ser = []))) := by rw [List.take_succ_eq_append_getElem hlt, serM_snoc]
          by_cases hk0 : k = 0
          · have ek : decide ((0 : Int) < (k : Int)) = false := decide_eq_false (by omega)
            rw [decide_eq_true hk0, Bool.true_or, Bool.true_and] at hu1
            refine .inl ⟨_, hvu, ?_⟩; try simp only [go_sem, Int.reduceEq, Int.reduceLT, Nat.reduceEqDiff, Nat.reduceAdd, Nat.reduceMul, Nat.reduceLT, Nat.reduceLeDiff, Int.reduceToNat]
            simp only [ek, hfind, go_sem, Int.reduceEq, Int.reduceLT, Nat.reduceEqDiff, Nat.reduceAdd, Nat.reduceMul, Nat.reduceLT, Nat.reduceLeDiff, Int.reduceToNat]
            rcases hany : (c.us.take k).any (fun u => !decide (u.ser = []) && decide (u.ser = c.us[k].ser)) with _ | _
            · have hok : unit1T c.us k = true := by rw [hu1, hany]; rfl
              refine hNw _ (VWp.keep [1,3,6,8,48,49,50,79] [1,8,46] ?_); simp only [go_sem, Int.reduceEq, Int.reduceLT, Nat.reduceEqDiff, Nat.reduceAdd, Nat.reduceMul, Nat.reduceLT, Nat.reduceLeDiff, Int.reduceToNat]
              refine vif rfl ⟨(fun ht => by first | cases ht | (rw [hany] at ht; cases ht) | simp at ht), fun _ => ?_⟩
              refine vwp_skip (hNv _ ?_)
              refine vreg tt_ok hF rfl ?_; simp only [go_sem, Int.reduceEq, Int.reduceLT, Nat.reduceEqDiff, Nat.reduceAdd, Nat.reduceMul, Nat.reduceLT, Nat.reduceLeDiff, Int.reduceToNat]
              rw [← hset]
              refine hNt _ (VWp.keep [1,3,6,48,49,50] [1,46] ?_); simp only [go_sem, Int.reduceEq, Int.reduceLT, Nat.reduceEqDiff, Nat.reduceAdd, Nat.reduceMul, Nat.reduceLT, Nat.reduceLeDiff, Int.reduceToNat]
              refine vreg tt_ok hF rfl ?_; simp only [go_sem, Int.reduceEq, Int.reduceLT, Nat.reduceEqDiff, Nat.reduceAdd, Nat.reduceMul, Nat.reduceLT, Nat.reduceLeDiff, Int.reduceToNat]
              rw [wrap_i64 (by omega) (by omega)]
              refine ⟨k + 1, ⟨by omega, fun j hj => ?_⟩, by omega, by simp⟩
              rcases Nat.lt_or_ge j k with q | q
              · exact hall2 j q
              · have : j = k := by omega
                subst this; exact hok
            · have hno := hbad (by rw [hu1, hany]; rfl)
              refine hNw _ (VWp.keep [1,3,6,8,48,49,50,79] [1,8,46] ?_); simp only [go_sem, Int.reduceEq, Int.reduceLT, Nat.reduceEqDiff, Nat.reduceAdd, Nat.reduceMul, Nat.reduceLT, Nat.reduceLeDiff, Int.reduceToNat]
              refine vif rfl ⟨fun _ => ?_, (fun hf => by first | cases hf | (rw [hany] at hf; cases hf) | simp at hf)⟩
              refine vwp_seq_k fun Nx hNx => vreg tt_ok hF rfl ?_; simp only [go_sem, Int.reduceEq, Int.reduceLT, Nat.reduceEqDiff, Nat.reduceAdd, Nat.reduceMul, Nat.reduceLT, Nat.reduceLeDiff, Int.reduceToNat]
              refine hNx _ (VWp.keep [2] [] ?_); simp only [go_sem, Int.reduceEq, Int.reduceLT, Nat.reduceEqDiff, Nat.reduceAdd, Nat.reduceMul, Nat.reduceLT, Nat.reduceLeDiff, Int.reduceToNat]
              refine vwp_ret ?_
              simp only [hno, go_sem, Int.reduceEq, Int.reduceLT, Nat.reduceEqDiff, Nat.reduceAdd, Nat.reduceMul, Nat.reduceLT, Nat.reduceLeDiff, Int.reduceToNat]
              exact LeV.refl _
          · have ek : decide ((0 : Int) < (k : Int)) = true := decide_eq_true (by omega)
            have hprev : c.us.getD (k - 1) ⟨0, 0, [], 0, 0⟩ = c.us[k - 1]'(by omega) := by simp [List.getD_eq_getElem?_getD, List.getElem?_eq_getElem (show k - 1 < c.us.length by omega)]
            have hget1 := uni_row (us := c.us) (k := k - 1) (by omega)
            have hw : IntKind.i64.wrap ((k : Int) - 1) = ((k - 1 : Nat) : Int) := by rw [wrap_i64 (by omega) (by omega)]; omega
            rw [decide_eq_false hk0, Bool.false_or, hprev] at hu1
            rcases hle : decide (c.us[k].addr ≤ (c.us[k - 1]'(by omega)).addr) with _ | _
            · rcases hany : (c.us.take k).any (fun u => !decide (u.ser = []) && decide (u.ser = c.us[k].ser)) with _ | _
              · have hok : unit1T c.us k = true := by rw [hu1, hle, hany]; rfl
                refine .inl ⟨_, hvu, ?_⟩; try simp only [go_sem, Int.reduceEq, Int.reduceLT, Nat.reduceEqDiff, Nat.reduceAdd, Nat.reduceMul, Nat.reduceLT, Nat.reduceLeDiff, Int.reduceToNat]
                simp only [ek, hw, go_sem, Int.reduceEq, Int.reduceLT, Nat.reduceEqDiff, Nat.reduceAdd, Nat.reduceMul, Nat.reduceLT, Nat.reduceLeDiff, Int.reduceToNat]
                refine ⟨⟨by omega, by omega⟩, by rw [hget1]; exact (by decide : 0 < 5), ?_⟩
                simp only [hget1, Int.toNat_natCast, hle, hfind, hany, go_sem, Int.reduceEq, Int.reduceLT, Nat.reduceEqDiff, Nat.reduceAdd, Nat.reduceMul, Nat.reduceLT, Nat.reduceLeDiff, Int.reduceToNat]
                refine hNw _ (VWp.keep [1,3,6,8,48,49,50,79] [1,8,46] ?_); simp only [go_sem, Int.reduceEq, Int.reduceLT, Nat.reduceEqDiff, Nat.reduceAdd, Nat.reduceMul, Nat.reduceLT, Nat.reduceLeDiff, Int.reduceToNat]
                refine vif rfl ⟨(fun ht => by first | cases ht | (rw [hany] at ht; cases ht) | simp at ht), fun _ => ?_⟩
                refine vwp_skip (hNv _ ?_)
                refine vreg tt_ok hF rfl ?_; simp only [go_sem, Int.reduceEq, Int.reduceLT, Nat.reduceEqDiff, Nat.reduceAdd, Nat.reduceMul, Nat.reduceLT, Nat.reduceLeDiff, Int.reduceToNat]
                rw [← hset]
                refine hNt _ (VWp.keep [1,3,6,48,49,50] [1,46] ?_); simp only [go_sem, Int.reduceEq, Int.reduceLT, Nat.reduceEqDiff, Nat.reduceAdd, Nat.reduceMul, Nat.reduceLT, Nat.reduceLeDiff, Int.reduceToNat]
                refine vreg tt_ok hF rfl ?_; simp only [go_sem, Int.reduceEq, Int.reduceLT, Nat.reduceEqDiff, Nat.reduceAdd, Nat.reduceMul, Nat.reduceLT, Nat.reduceLeDiff, Int.reduceToNat]
                rw [wrap_i64 (by omega) (by omega)]
                refine ⟨k + 1, ⟨by omega, fun j hj => ?_⟩, by omega, by simp⟩
                rcases Nat.lt_or_ge j k with q | q
                · exact hall2 j q
                · have : j = k := by omega
                  subst this; exact hok
              · have hno := hbad (by rw [hu1, hle, hany]; rfl)
                refine .inl ⟨_, hvu, ?_⟩; try simp only [go_sem, Int.reduceEq, Int.reduceLT, Nat.reduceEqDiff, Nat.reduceAdd, Nat.reduceMul, Nat.reduceLT, Nat.reduceLeDiff, Int.reduceToNat]
                simp only [ek, hw, go_sem, Int.reduceEq, Int.reduceLT, Nat.reduceEqDiff, Nat.reduceAdd, Nat.reduceMul, Nat.reduceLT, Nat.reduceLeDiff, Int.reduceToNat]
                refine ⟨⟨by omega, by omega⟩, by rw [hget1]; exact (by decide : 0 < 5), ?_⟩
                simp only [hget1, Int.toNat_natCast, hle, hfind, hany, go_sem, Int.reduceEq, Int.reduceLT, Nat.reduceEqDiff, Nat.reduceAdd, Nat.reduceMul, Nat.reduceLT, Nat.reduceLeDiff, Int.reduceToNat]
                refine hNw _ (VWp.keep [1,3,6,8,48,49,50,79] [1,8,46] ?_); simp only [go_sem, Int.reduceEq, Int.reduceLT, Nat.reduceEqDiff, Nat.reduceAdd, Nat.reduceMul, Nat.reduceLT, Nat.reduceLeDiff, Int.reduceToNat]
                refine vif rfl ⟨fun _ => ?_, (fun hf => by first | cases hf | (rw [hany] at hf; cases hf) | simp at hf)⟩
                refine vwp_seq_k fun Nx hNx => vreg tt_ok hF rfl ?_; simp only [go_sem, Int.reduceEq, Int.reduceLT, Nat.reduceEqDiff, Nat.reduceAdd, Nat.reduceMul, Nat.reduceLT, Nat.reduceLeDiff, Int.reduceToNat]
                refine hNx _ (VWp.keep [2] [] ?_); simp only [go_sem, Int.reduceEq, Int.reduceLT, Nat.reduceEqDiff, Nat.reduceAdd, Nat.reduceMul, Nat.reduceLT, Nat.reduceLeDiff, Int.reduceToNat]
                refine vwp_ret ?_
                simp only [hno, go_sem, Int.reduceEq, Int.reduceLT, Nat.reduceEqDiff, Nat.reduceAdd, Nat.reduceMul, Nat.reduceLT, Nat.reduceLeDiff, Int.reduceToNat]
                exact LeV.refl _
            · have hno := hbad (by rw [hu1, hle]; rfl)
              refine .inl ⟨_, hvu, ?_⟩; try simp only [go_sem, Int.reduceEq, Int.reduceLT, Nat.reduceEqDiff, Nat.reduceAdd, Nat.reduceMul, Nat.reduceLT, Nat.reduceLeDiff, Int.reduceToNat]
              simp only [ek, hw, go_sem, Int.reduceEq, Int.reduceLT, Nat.reduceEqDiff, Nat.reduceAdd, Nat.reduceMul, Nat.reduceLT, Nat.reduceLeDiff, Int.reduceToNat]
              refine ⟨⟨by omega, by omega⟩, by rw [hget1]; exact (by decide : 0 < 5), ?_⟩
              simp only [hget1, Int.toNat_natCast, hle, go_sem, Int.reduceEq, Int.reduceLT, Nat.reduceEqDiff, Nat.reduceAdd, Nat.reduceMul, Nat.reduceLT, Nat.reduceLeDiff, Int.reduceToNat]
              refine hNw _ (VWp.keep [1,3,6,8,48,49,50,79] [1,8,46] ?_); simp only [go_sem, Int.reduceEq, Int.reduceLT, Nat.reduceEqDiff, Nat.reduceAdd, Nat.reduceMul, Nat.reduceLT, Nat.reduceLeDiff, Int.reduceToNat]
              refine vif rfl ⟨fun _ => ?_, (fun hf => by first | cases hf | (rw [hle] at hf; cases hf) | simp at hf)⟩
              refine vwp_seq_k fun Nx hNx => vreg tt_ok hF rfl ?_; simp only [go_sem, Int.reduceEq, Int.reduceLT, Nat.reduceEqDiff, Nat.reduceAdd, Nat.reduceMul, Nat.reduceLT, Nat.reduceLeDiff, Int.reduceToNat]
              refine hNx _ (VWp.keep [2] [] ?_); simp only [go_sem, Int.reduceEq, Int.reduceLT, Nat.reduceEqDiff, Nat.reduceAdd, Nat.reduceMul, Nat.reduceLT, Nat.reduceLeDiff, Int.reduceToNat]
              refine vwp_ret ?_
              simp only [hno, go_sem, Int.reduceEq, Int.reduceLT, Nat.reduceEqDiff, Nat.reduceAdd, Nat.reduceMul, Nat.reduceLT, Nat.reduceLeDiff, Int.reduceToNat]
              exact LeV.refl _
      · have hke : k = c.us.length := by have := of_decide_eq_false hf; omega
        have hun : unitsT c.us = true := List.all_eq_true.2 fun j hj => hall2 j (by rw [List.mem_range] at hj; omega)
        rw [hun, Bool.true_and] at hcf
        refine vwp_exit ?_
        simp only [go_sem, Int.reduceEq, Int.reduceLT, Nat.reduceEqDiff, Nat.reduceAdd, Nat.reduceMul, Nat.reduceLT, Nat.reduceLeDiff, Int.reduceToNat]
        refine hNp _ (VWp.keep [1,3] [1] ?_); simp only [go_sem, Int.reduceEq, Int.reduceLT, Nat.reduceEqDiff, Nat.reduceAdd, Nat.reduceMul, Nat.reduceLT, Nat.reduceLeDiff, Int.reduceToNat]
        refine vwp_seq_k fun Ny hNy => ?_
        refine vwp_seq_k fun Nz hNz => vreg tt_ok hF rfl ?_; simp only [go_sem, Int.reduceEq, Int.reduceLT, Nat.reduceEqDiff, Nat.reduceAdd, Nat.reduceMul, Nat.reduceLT, Nat.reduceLeDiff, Int.reduceToNat]
        refine hNz _ (VWp.keep [90] [] ?_); simp only [go_sem, Int.reduceEq, Int.reduceLT, Nat.reduceEqDiff, Nat.reduceAdd, Nat.reduceMul, Nat.reduceLT, Nat.reduceLeDiff, Int.reduceToNat]
        refine vif rfl ⟨fun ht2 => ?_, fun hf2 => ?_⟩
        · have hno : chkE c = 190 := by unfold chkE; rw [hcf, ht2]; rfl
          refine vwp_seq_k fun Naa hNaa => vreg tt_ok hF rfl ?_; simp only [go_sem, Int.reduceEq, Int.reduceLT, Nat.reduceEqDiff, Nat.reduceAdd, Nat.reduceMul, Nat.reduceLT, Nat.reduceLeDiff, Int.reduceToNat]
          refine hNaa _ (VWp.keep [2] [] ?_); simp only [go_sem, Int.reduceEq, Int.reduceLT, Nat.reduceEqDiff, Nat.reduceAdd, Nat.reduceMul, Nat.reduceLT, Nat.reduceLeDiff, Int.reduceToNat]
          refine vwp_ret ?_
          simp only [hno, go_sem, Int.reduceEq, Int.reduceLT, Nat.reduceEqDiff, Nat.reduceAdd, Nat.reduceMul, Nat.reduceLT, Nat.reduceLeDiff, Int.reduceToNat]
          exact LeV.refl _
        · have hyes : chkE c = 0 := by unfold chkE; rw [hcf, hf2]; rfl
          refine vwp_skip (hNy _ ?_)
          refine vwp_seq_k fun Nab hNab => vreg tt_ok hF rfl ?_; simp only [go_sem, Int.reduceEq, Int.reduceLT, Nat.reduceEqDiff, Nat.reduceAdd, Nat.reduceMul, Nat.reduceLT, Nat.reduceLeDiff, Int.reduceToNat]
          refine hNab _ (VWp.keep [2] [] ?_); simp only [go_sem, Int.reduceEq, Int.reduceLT, Nat.reduceEqDiff, Nat.reduceAdd, Nat.reduceMul, Nat.reduceLT, Nat.reduceLeDiff, Int.reduceToNat]
          refine vwp_ret ?_
          simp only [hyes, go_sem, Int.reduceEq, Int.reduceLT, Nat.reduceEqDiff, Nat.reduceAdd, Nat.reduceMul, Nat.reduceLT, Nat.reduceLeDiff, Int.reduceToNat]
          exact LeV.refl _
end Go.Proofs.YtedbbinlcdgkoaaGreatDoor

/- Layer 19: the kinds of lines and units, numbers, the lines STORE and PART. -/
namespace Go.Proofs.YtedbbinlcdgkoaaGreatDoor
open Go.RowKit
-- FUSE
-- LESS
set_option linter.unusedVariables false
set_option linter.unusedSimpArgs false
def kndM : List (Bs × V) := [([82, 69, 65, 68, 69, 82], .int .i64 1), ([80, 85, 78, 67, 72], .int .i64 2), ([80, 82, 73, 78, 84, 69, 82], .int .i64 3), ([84, 65, 80, 69], .int .i64 4), ([68, 73, 83, 75], .int .i64 5)]
set_option maxHeartbeats 4000000 in
set_option maxRecDepth 4000 in
theorem kinds_B : SpecB Tryz.prog 40 [] [] (.mp 1) [(1, .map kndM)] := by
  refine specB_of tt_ok Tryz.func40 rfl (by decide) Tryz.ntmps40 (congrArg Array.toList Tryz.results40) (by simp) (by decide) rfl (by simp only [go_sem, Int.reduceEq, Int.reduceLT, Nat.reduceEqDiff, Nat.reduceAdd, Nat.reduceMul, Nat.reduceLT, Nat.reduceLeDiff, Int.reduceToNat]) (fun F hF => ?_)
  refine vwp_seq_k fun Na hNa => vreg tt_ok hF rfl ?_; simp only [go_sem, Int.reduceEq, Int.reduceLT, Nat.reduceEqDiff, Nat.reduceAdd, Nat.reduceMul, Nat.reduceLT, Nat.reduceLeDiff, Int.reduceToNat]
  refine hNa _ (VWp.keepR [] [] tt_ok hF rfl fun Nb hNb => ?_); simp only [go_sem, Int.reduceEq, Int.reduceLT, Nat.reduceEqDiff, Nat.reduceAdd, Nat.reduceMul, Nat.reduceLT, Nat.reduceLeDiff, Int.reduceToNat]
  refine hNb _ (VWp.keep [0] [1] ?_); simp only [go_sem, Int.reduceEq, Int.reduceLT, Nat.reduceEqDiff, Nat.reduceAdd, Nat.reduceMul, Nat.reduceLT, Nat.reduceLeDiff, Int.reduceToNat]
  refine vwp_ret ?_
  simp only [go_sem, Int.reduceEq, Int.reduceLT, Nat.reduceEqDiff, Nat.reduceAdd, Nat.reduceMul, Nat.reduceLT, Nat.reduceLeDiff, Int.reduceToNat]
  exact ⟨LeV.refl _, rfl⟩
def staM : List (Bs × V) := [([83, 84, 79, 82, 69], .agg [.int .i64 2, .fn (.func 66) []]), ([80, 65, 82, 84], .agg [.int .i64 3, .fn (.func 67) []]), ([85, 78, 73, 84], .agg [.int .i64 3, .fn (.func 68) []])]
set_option maxHeartbeats 4000000 in
set_option maxRecDepth 4000 in
theorem statements_B : SpecB Tryz.prog 42 [] [] (.mp 1) [(1, .map staM)] := by
  refine specB_of tt_ok Tryz.func42 rfl (by decide) Tryz.ntmps42 (congrArg Array.toList Tryz.results42) (by simp) (by decide) rfl (by simp only [go_sem, Int.reduceEq, Int.reduceLT, Nat.reduceEqDiff, Nat.reduceAdd, Nat.reduceMul, Nat.reduceLT, Nat.reduceLeDiff, Int.reduceToNat]) (fun F hF => ?_)
  refine vwp_seq_k fun Na hNa => vreg tt_ok hF rfl ?_; simp only [go_sem, Int.reduceEq, Int.reduceLT, Nat.reduceEqDiff, Nat.reduceAdd, Nat.reduceMul, Nat.reduceLT, Nat.reduceLeDiff, Int.reduceToNat]
  refine hNa _ (VWp.keepR [] [] tt_ok hF rfl fun Nb hNb => ?_); simp only [go_sem, Int.reduceEq, Int.reduceLT, Nat.reduceEqDiff, Nat.reduceAdd, Nat.reduceMul, Nat.reduceLT, Nat.reduceLeDiff, Int.reduceToNat]
  refine hNb _ (VWp.keep [0] [1] ?_); simp only [go_sem, Int.reduceEq, Int.reduceLT, Nat.reduceEqDiff, Nat.reduceAdd, Nat.reduceMul, Nat.reduceLT, Nat.reduceLeDiff, Int.reduceToNat]
  refine vwp_ret ?_
  simp only [go_sem, Int.reduceEq, Int.reduceLT, Nat.reduceEqDiff, Nat.reduceAdd, Nat.reduceMul, Nat.reduceLT, Nat.reduceLeDiff, Int.reduceToNat]
  exact ⟨LeV.refl _, rfl⟩
theorem Trim_spec (s cs : Bs) (hs : s.length ≤ 1000000) (hc : cs.length ≤ 100) (ha : cs.all (fun c => decide (c.toNat < 128)) = true) : Spec Tryz.prog 115 [.str s, .str cs] (.str (Lib.trimS s cs)) := by
  refine spec_lib Tryz.func115 rfl (by decide) rfl fun S w vs hG hv => ?_
  obtain ⟨u, v, rfl, h1, h2⟩ := repL2 hv
  cases h1; cases h2
  refine (Go.Proofs.Any.strings_Trim_laid Tryz.lays160 (by kernel_rfl) ⟨s.toArray⟩ ⟨cs.toArray⟩ w (by show s.length ≤ _; omega) (by show cs.length < _; omega) (fun j b hb => ?_)).mono ?_
  · exact of_decide_eq_true (List.all_eq_true.1 ha b (List.mem_of_getElem? hb))
  · rintro e w' ⟨rfl, hb⟩
    exact ⟨_, rfl, Chg.of_below hb [], fun S' => rfl⟩
theorem trim_nil (s cs : Bs) : decide (Lib.trimS s cs = []) = s.all cs.contains := by
  have h1 : ∀ l : Bs, l.dropWhile cs.contains = [] ↔ l.all cs.contains = true := fun l => by
    induction l with
    | nil => simp
    | cons c l ih =>
      rw [List.dropWhile_cons]
      by_cases h : cs.contains c = true
      · rw [if_pos h, List.all_cons, h, Bool.true_and]; exact ih
      · rw [if_neg h, List.all_cons]; simp only [Bool.not_eq_true] at h; rw [h]; simp
  have h2 : ∀ l : Bs, (∀ c ∈ l, cs.contains c = true) → Lib.trimS l cs = [] := fun l h => by
    unfold Lib.trimS Lib.trimLeftS Lib.trimRightS
    have : l.reverse.dropWhile cs.contains = [] := (h1 _).2 (List.all_eq_true.2 fun c hc => h c (List.mem_reverse.1 hc))
    show ((l.reverse.dropWhile cs.contains).reverse).dropWhile cs.contains = []
    rw [this]; rfl
  rw [Bool.eq_iff_iff, decide_eq_true_iff]
  refine ⟨fun h => ?_, fun h => h2 s (List.all_eq_true.1 h)⟩
  have h3 : ((s.reverse.dropWhile cs.contains).reverse).dropWhile cs.contains = [] := h
  rw [h1, List.all_reverse] at h3
  have h4 : s.reverse.takeWhile cs.contains ++ s.reverse.dropWhile cs.contains = s.reverse := List.takeWhile_append_dropWhile
  rw [← List.all_reverse, ← h4, List.all_append, h3, Bool.and_true]
  exact List.all_takeWhile
def digC (c : UInt8) : Bool := decide (48 ≤ c.toNat) && decide (c.toNat ≤ 57)
def dgS : Bs := [48, 49, 50, 51, 52, 53, 54, 55, 56, 57]
theorem dg_has : ∀ n < 256, dgS.contains (UInt8.ofNat n) = digC (UInt8.ofNat n) := by decide +kernel
theorem dgs_all (s : Bs) : s.all dgS.contains = s.all digC := by
  have : ∀ c : UInt8, dgS.contains c = digC c := fun c => by have := dg_has c.toNat c.toNat_lt; rwa [UInt8.ofNat_toNat] at this
  rw [show dgS.contains = digC from funext this]
def valT (w : Bs) : Nat := w.foldl (fun z c => z * 10 + (c.toNat - 48)) 0
theorem val_bound : ∀ (l : Bs) (acc : Nat), l.all digC = true → l.foldl (fun z c => z * 10 + (c.toNat - 48)) acc < (acc + 1) * 10 ^ l.length
  | [], acc, _ => by simp
  | c :: l, acc, h => by
    rw [List.all_cons, Bool.and_eq_true] at h
    have h1 := h.1
    unfold digC at h1
    simp only [Bool.and_eq_true, decide_eq_true_eq] at h1
    have := val_bound l (acc * 10 + (c.toNat - 48)) h.2
    rw [List.foldl_cons, List.length_cons, Nat.pow_succ]
    refine Nat.lt_of_lt_of_le this ?_
    rw [Nat.mul_comm (10 ^ l.length) 10, ← Nat.mul_assoc]
    exact Nat.mul_le_mul_right _ (by omega)
theorem parse_dig : ∀ (l : Bs) (acc : Nat), l.all digC = true → (acc + 1) * 10 ^ l.length ≤ 1000000000000 → Lib.parseUint10 acc l = .ok (l.foldl (fun z c => z * 10 + (c.toNat - 48)) acc)
  | [], acc, _, _ => rfl
  | c :: l, acc, h, hb => by
    rw [List.all_cons, Bool.and_eq_true] at h
    have h1 := h.1
    unfold digC at h1
    simp only [Bool.and_eq_true, decide_eq_true_eq] at h1
    rw [List.length_cons, Nat.pow_succ, Nat.mul_comm (10 ^ l.length) 10, ← Nat.mul_assoc] at hb
    have hp : 1 ≤ 10 ^ l.length := Nat.one_le_pow _ _ (by omega)
    have hacc : (acc + 1) * 10 ≤ 1000000000000 := Nat.le_trans (Nat.le_mul_of_pos_right _ hp) hb
    unfold Lib.parseUint10
    rw [if_pos h1, if_neg (by omega), if_neg (by omega), List.foldl_cons]
    exact parse_dig l _ h.2 (Nat.le_trans (Nat.mul_le_mul_right _ (by omega)) hb)
def numT (w : Bs) : Int := if decide (w.length < 1) || decide (6 < w.length) || (decide (1 < w.length) && decide (w.getD 0 0 = 48)) || !w.all digC then -1 else (valT w : Int)
theorem Atoi_spec (w : Bs) (h1 : 1 ≤ w.length) (h6 : w.length ≤ 6) (hd : w.all digC = true) : Spec Tryz.prog 116 [.str w] (.tup [.int .i64 (valT w : Int), .raw .nilIface]) := by
  refine spec_lib Tryz.func116 rfl (by decide) rfl fun S wd vs hG hv => ?_
  obtain ⟨u, rfl, hu⟩ := repL1 hv
  cases hu
  have hall : Lib.atoiAll w = .ok (valT w : Int) := by
    cases w with
    | nil => simp at h1
    | cons c r =>
      have hc : digC c = true := by rw [List.all_cons, Bool.and_eq_true] at hd; exact hd.1
      unfold digC at hc
      simp only [Bool.and_eq_true, decide_eq_true_eq] at hc
      have hp : Lib.parseMag (c :: r) = .ok (valT (c :: r)) := by
        unfold Lib.parseMag
        rw [if_neg (by simp)]
        refine parse_dig _ 0 hd ?_
        have : 10 ^ (c :: r).length ≤ 10 ^ 6 := Nat.pow_le_pow_right (by omega) h6
        omega
      have hv1 := val_bound (c :: r) 0 hd
      have hv2 : 10 ^ (c :: r).length ≤ 10 ^ 6 := Nat.pow_le_pow_right (by omega) h6
      have hv3 : valT (c :: r) < 1000000 := by unfold valT; omega
      unfold Lib.atoiAll
      simp only
      rw [if_neg (by omega), hp]
      simp only
      rw [if_neg (by omega), if_neg (by omega), if_neg (by omega)]
  refine (Tryz.strconv_Atoi_ok ⟨w.toArray⟩ (by show w.length ≤ _; omega) _ hall wd).mono ?_
  rintro e w' ⟨rfl, hw⟩
  refine ⟨_, rfl, ?_, fun S' => ⟨_, rfl, _, _, rfl, rfl, _, _, rfl, rfl, rfl⟩⟩
  rcases hw with rfl | ⟨t, rfl⟩
  · exact Chg.refl _ _
  · exact Chg.of_below (Go.Lib.bytesWorld_below _ _ _) []
set_option maxHeartbeats 8000000 in
set_option maxRecDepth 4000 in
theorem number_spec (w : Bs) (hw : w.length ≤ 1000000) : Spec Tryz.prog 90 [.str w] (.int .i64 (numT w)) := by
  have htr : Spec Tryz.prog 115 [.str w, .str [48, 49, 50, 51, 52, 53, 54, 55, 56, 57]] (.str (Lib.trimS w dgS)) := Trim_spec w dgS hw (by decide) (by decide)
  have htn : decide (Lib.trimS w dgS = []) = w.all digC := by rw [trim_nil, dgs_all]
  have hnum : numT w = if decide (w.length < 1) || decide (6 < w.length) || (decide (1 < w.length) && decide (w.getD 0 0 = 48)) || !w.all digC then -1 else (valT w : Int) := rfl
  generalize Lib.trimS w dgS = T at *
  by_cases c1 : w.length < 1
  · have e1 : decide ((w.length : Int) < 1) = true := decide_eq_true (by omega)
    rw [decide_eq_true c1, Bool.true_or, Bool.true_or, Bool.true_or, if_pos rfl] at hnum
    rw [hnum]
    refine spec_of tt_ok Tryz.func90 rfl (by decide) Tryz.ntmps90 (congrArg Array.toList Tryz.results90) (by simp) (by decide) rfl rfl (fun F hF => ?_)
    refine vwp_seq_k fun Na hNa => vreg tt_ok hF rfl ?_; simp only [go_sem, Int.reduceEq, Int.reduceLT, Nat.reduceEqDiff, Nat.reduceAdd, Nat.reduceMul, Nat.reduceLT, Nat.reduceLeDiff, Int.reduceToNat]
    refine hNa _ (VWp.keep [0] [] ?_); simp only [go_sem, Int.reduceEq, Int.reduceLT, Nat.reduceEqDiff, Nat.reduceAdd, Nat.reduceMul, Nat.reduceLT, Nat.reduceLeDiff, Int.reduceToNat]
    refine vwp_seq_k fun Nb hNb => ?_
    refine vwp_seq_k fun Nc hNc => vreg tt_ok hF rfl ?_; simp only [e1, go_sem, Int.reduceEq, Int.reduceLT, Nat.reduceEqDiff, Nat.reduceAdd, Nat.reduceMul, Nat.reduceLT, Nat.reduceLeDiff, Int.reduceToNat]
    refine hNc _ (VWp.keep [0,27] [] ?_); simp only [go_sem, Int.reduceEq, Int.reduceLT, Nat.reduceEqDiff, Nat.reduceAdd, Nat.reduceMul, Nat.reduceLT, Nat.reduceLeDiff, Int.reduceToNat]
    refine vif rfl ⟨fun ht => ?_, (fun hf => by cases hf)⟩
    refine vwp_seq_k fun Nd hNd => vreg tt_ok hF rfl ?_; simp only [go_sem, Int.reduceEq, Int.reduceLT, Nat.reduceEqDiff, Nat.reduceAdd, Nat.reduceMul, Nat.reduceLT, Nat.reduceLeDiff, Int.reduceToNat]
    refine hNd _ (VWp.keep [2] [] ?_); simp only [go_sem, Int.reduceEq, Int.reduceLT, Nat.reduceEqDiff, Nat.reduceAdd, Nat.reduceMul, Nat.reduceLT, Nat.reduceLeDiff, Int.reduceToNat]
    refine vwp_ret ?_
    simp only [go_sem, Int.reduceEq, Int.reduceLT, Nat.reduceEqDiff, Nat.reduceAdd, Nat.reduceMul, Nat.reduceLT, Nat.reduceLeDiff, Int.reduceToNat]
    exact LeV.refl _
  · by_cases c2 : 6 < w.length
    · have e1 : decide ((w.length : Int) < 1) = false := decide_eq_false (by omega)
      have e2 : decide ((6 : Int) < (w.length : Int)) = true := decide_eq_true (by omega)
      rw [decide_eq_true c2, Bool.or_true, Bool.true_or, Bool.true_or, if_pos rfl] at hnum
      rw [hnum]
      refine spec_of tt_ok Tryz.func90 rfl (by decide) Tryz.ntmps90 (congrArg Array.toList Tryz.results90) (by simp) (by decide) rfl rfl (fun F hF => ?_)
      refine vwp_seq_k fun Na hNa => vreg tt_ok hF rfl ?_; simp only [go_sem, Int.reduceEq, Int.reduceLT, Nat.reduceEqDiff, Nat.reduceAdd, Nat.reduceMul, Nat.reduceLT, Nat.reduceLeDiff, Int.reduceToNat]
      refine hNa _ (VWp.keep [0] [] ?_); simp only [go_sem, Int.reduceEq, Int.reduceLT, Nat.reduceEqDiff, Nat.reduceAdd, Nat.reduceMul, Nat.reduceLT, Nat.reduceLeDiff, Int.reduceToNat]
      refine vwp_seq_k fun Nb hNb => ?_
      refine vwp_seq_k fun Nc hNc => vreg tt_ok hF rfl ?_; simp only [e1, e2, go_sem, Int.reduceEq, Int.reduceLT, Nat.reduceEqDiff, Nat.reduceAdd, Nat.reduceMul, Nat.reduceLT, Nat.reduceLeDiff, Int.reduceToNat]
      refine hNc _ (VWp.keep [0,27] [] ?_); simp only [go_sem, Int.reduceEq, Int.reduceLT, Nat.reduceEqDiff, Nat.reduceAdd, Nat.reduceMul, Nat.reduceLT, Nat.reduceLeDiff, Int.reduceToNat]
      refine vif rfl ⟨fun ht => ?_, (fun hf => by cases hf)⟩
      refine vwp_seq_k fun Nd hNd => vreg tt_ok hF rfl ?_; simp only [go_sem, Int.reduceEq, Int.reduceLT, Nat.reduceEqDiff, Nat.reduceAdd, Nat.reduceMul, Nat.reduceLT, Nat.reduceLeDiff, Int.reduceToNat]
      refine hNd _ (VWp.keep [2] [] ?_); simp only [go_sem, Int.reduceEq, Int.reduceLT, Nat.reduceEqDiff, Nat.reduceAdd, Nat.reduceMul, Nat.reduceLT, Nat.reduceLeDiff, Int.reduceToNat]
      refine vwp_ret ?_
      simp only [go_sem, Int.reduceEq, Int.reduceLT, Nat.reduceEqDiff, Nat.reduceAdd, Nat.reduceMul, Nat.reduceLT, Nat.reduceLeDiff, Int.reduceToNat]
      exact LeV.refl _
    · have e1 : decide ((w.length : Int) < 1) = false := decide_eq_false (by omega)
      have e2 : decide ((6 : Int) < (w.length : Int)) = false := decide_eq_false (by omega)
      rw [decide_eq_false c1, decide_eq_false c2, Bool.false_or, Bool.false_or] at hnum
      have e4 : decide ((((w.getD 0 0).toNat : Nat) : Int) = 48) = decide (w.getD 0 0 = 48) := by
        apply decide_eq_decide.2
        constructor
        · intro q; exact UInt8.toNat_inj.1 (by have : (w.getD 0 0).toNat = 48 := by omega
                                               rw [this]; rfl)
        · intro q; rw [q]; rfl
      refine spec_of tt_ok Tryz.func90 rfl (by decide) Tryz.ntmps90 (congrArg Array.toList Tryz.results90) (by simp) (by decide) rfl rfl (fun F hF => ?_)
      refine vwp_seq_k fun Na hNa => vreg tt_ok hF rfl ?_; simp only [go_sem, Int.reduceEq, Int.reduceLT, Nat.reduceEqDiff, Nat.reduceAdd, Nat.reduceMul, Nat.reduceLT, Nat.reduceLeDiff, Int.reduceToNat]
      refine hNa _ (VWp.keep [0] [] ?_); simp only [go_sem, Int.reduceEq, Int.reduceLT, Nat.reduceEqDiff, Nat.reduceAdd, Nat.reduceMul, Nat.reduceLT, Nat.reduceLeDiff, Int.reduceToNat]
      refine vwp_seq_k fun Nb hNb => ?_
      refine vwp_seq_k fun Nc hNc => vreg tt_ok hF rfl ?_; simp only [e1, e2, go_sem, Int.reduceEq, Int.reduceLT, Nat.reduceEqDiff, Nat.reduceAdd, Nat.reduceMul, Nat.reduceLT, Nat.reduceLeDiff, Int.reduceToNat]
      by_cases c3 : 1 < w.length
      · have e3 : decide ((1 : Int) < (w.length : Int)) = true := decide_eq_true (by omega)
        rw [decide_eq_true c3, Bool.true_and] at hnum
        simp only [e3, go_sem, Int.reduceEq, Int.reduceLT, Nat.reduceEqDiff, Nat.reduceAdd, Nat.reduceMul, Nat.reduceLT, Nat.reduceLeDiff, Int.reduceToNat]
        refine ⟨by omega, ?_⟩
        simp only [e4, go_sem, Int.reduceEq, Int.reduceLT, Nat.reduceEqDiff, Nat.reduceAdd, Nat.reduceMul, Nat.reduceLT, Nat.reduceLeDiff, Int.reduceToNat]
        rcases c4 : decide (w.getD 0 0 = 48) with _ | _
        · rw [c4, Bool.false_or] at hnum
          rcases c5 : w.all digC with _ | _
          · rw [c5, if_pos (show (!false) = true from rfl)] at hnum
            rw [c5] at htn
            try simp only [c4, go_sem, Int.reduceEq, Int.reduceLT, Nat.reduceEqDiff, Nat.reduceAdd, Nat.reduceMul, Nat.reduceLT, Nat.reduceLeDiff, Int.reduceToNat]
            refine .inl ⟨_, htr, ?_⟩; try simp only [go_sem, Int.reduceEq, Int.reduceLT, Nat.reduceEqDiff, Nat.reduceAdd, Nat.reduceMul, Nat.reduceLT, Nat.reduceLeDiff, Int.reduceToNat]
            simp only [htn, go_sem, Int.reduceEq, Int.reduceLT, Nat.reduceEqDiff, Nat.reduceAdd, Nat.reduceMul, Nat.reduceLT, Nat.reduceLeDiff, Int.reduceToNat]
            refine hNc _ (VWp.keep [0,27] [] ?_); simp only [go_sem, Int.reduceEq, Int.reduceLT, Nat.reduceEqDiff, Nat.reduceAdd, Nat.reduceMul, Nat.reduceLT, Nat.reduceLeDiff, Int.reduceToNat]
            refine vif rfl ⟨fun ht => ?_, (fun hf => by first | cases hf | simp at hf)⟩
            refine vwp_seq_k fun Nd hNd => vreg tt_ok hF rfl ?_; simp only [go_sem, Int.reduceEq, Int.reduceLT, Nat.reduceEqDiff, Nat.reduceAdd, Nat.reduceMul, Nat.reduceLT, Nat.reduceLeDiff, Int.reduceToNat]
            refine hNd _ (VWp.keep [2] [] ?_); simp only [go_sem, Int.reduceEq, Int.reduceLT, Nat.reduceEqDiff, Nat.reduceAdd, Nat.reduceMul, Nat.reduceLT, Nat.reduceLeDiff, Int.reduceToNat]
            refine vwp_ret ?_
            simp only [go_sem, Int.reduceEq, Int.reduceLT, Nat.reduceEqDiff, Nat.reduceAdd, Nat.reduceMul, Nat.reduceLT, Nat.reduceLeDiff, Int.reduceToNat]
            first | exact LeV.refl _ | (rw [hnum]; exact LeV.refl _)
          · rw [c5, if_neg (by simp)] at hnum
            rw [c5] at htn
            have hat := Atoi_spec w (by omega) (by omega) c5
            try simp only [c4, go_sem, Int.reduceEq, Int.reduceLT, Nat.reduceEqDiff, Nat.reduceAdd, Nat.reduceMul, Nat.reduceLT, Nat.reduceLeDiff, Int.reduceToNat]
            refine .inl ⟨_, htr, ?_⟩; try simp only [go_sem, Int.reduceEq, Int.reduceLT, Nat.reduceEqDiff, Nat.reduceAdd, Nat.reduceMul, Nat.reduceLT, Nat.reduceLeDiff, Int.reduceToNat]
            simp only [htn, go_sem, Int.reduceEq, Int.reduceLT, Nat.reduceEqDiff, Nat.reduceAdd, Nat.reduceMul, Nat.reduceLT, Nat.reduceLeDiff, Int.reduceToNat]
            refine hNc _ (VWp.keep [0,27] [] ?_); simp only [go_sem, Int.reduceEq, Int.reduceLT, Nat.reduceEqDiff, Nat.reduceAdd, Nat.reduceMul, Nat.reduceLT, Nat.reduceLeDiff, Int.reduceToNat]
            refine vif rfl ⟨(fun ht => by first | cases ht | simp at ht), fun hf => ?_⟩
            refine vwp_skip (hNb _ ?_)
            refine vwp_seq_k fun Ne hNe => vreg tt_ok hF rfl ?_; simp only [go_sem, Int.reduceEq, Int.reduceLT, Nat.reduceEqDiff, Nat.reduceAdd, Nat.reduceMul, Nat.reduceLT, Nat.reduceLeDiff, Int.reduceToNat]
            refine .inl ⟨_, hat, ?_⟩; try simp only [go_sem, Int.reduceEq, Int.reduceLT, Nat.reduceEqDiff, Nat.reduceAdd, Nat.reduceMul, Nat.reduceLT, Nat.reduceLeDiff, Int.reduceToNat]
            refine hNe _ (VWp.keepR [3] [] tt_ok hF rfl fun Nf hNf => ?_); simp only [go_sem, Int.reduceEq, Int.reduceLT, Nat.reduceEqDiff, Nat.reduceAdd, Nat.reduceMul, Nat.reduceLT, Nat.reduceLeDiff, Int.reduceToNat]
            refine hNf _ (VWp.keep [2] [] ?_); simp only [go_sem, Int.reduceEq, Int.reduceLT, Nat.reduceEqDiff, Nat.reduceAdd, Nat.reduceMul, Nat.reduceLT, Nat.reduceLeDiff, Int.reduceToNat]
            refine vwp_ret ?_
            simp only [go_sem, Int.reduceEq, Int.reduceLT, Nat.reduceEqDiff, Nat.reduceAdd, Nat.reduceMul, Nat.reduceLT, Nat.reduceLeDiff, Int.reduceToNat]
            first | exact LeV.refl _ | (rw [hnum]; exact LeV.refl _)
        · rw [c4, Bool.true_or, if_pos rfl] at hnum
          try simp only [c4, go_sem, Int.reduceEq, Int.reduceLT, Nat.reduceEqDiff, Nat.reduceAdd, Nat.reduceMul, Nat.reduceLT, Nat.reduceLeDiff, Int.reduceToNat]
          refine hNc _ (VWp.keep [0,27] [] ?_); simp only [go_sem, Int.reduceEq, Int.reduceLT, Nat.reduceEqDiff, Nat.reduceAdd, Nat.reduceMul, Nat.reduceLT, Nat.reduceLeDiff, Int.reduceToNat]
          refine vif rfl ⟨fun ht => ?_, (fun hf => by first | cases hf | simp at hf)⟩
          refine vwp_seq_k fun Nd hNd => vreg tt_ok hF rfl ?_; simp only [go_sem, Int.reduceEq, Int.reduceLT, Nat.reduceEqDiff, Nat.reduceAdd, Nat.reduceMul, Nat.reduceLT, Nat.reduceLeDiff, Int.reduceToNat]
          refine hNd _ (VWp.keep [2] [] ?_); simp only [go_sem, Int.reduceEq, Int.reduceLT, Nat.reduceEqDiff, Nat.reduceAdd, Nat.reduceMul, Nat.reduceLT, Nat.reduceLeDiff, Int.reduceToNat]
          refine vwp_ret ?_
          simp only [go_sem, Int.reduceEq, Int.reduceLT, Nat.reduceEqDiff, Nat.reduceAdd, Nat.reduceMul, Nat.reduceLT, Nat.reduceLeDiff, Int.reduceToNat]
          first | exact LeV.refl _ | (rw [hnum]; exact LeV.refl _)
      · have e3 : decide ((1 : Int) < (w.length : Int)) = false := decide_eq_false (by omega)
        rw [decide_eq_false c3, Bool.false_and, Bool.false_or] at hnum
        simp only [e3, go_sem, Int.reduceEq, Int.reduceLT, Nat.reduceEqDiff, Nat.reduceAdd, Nat.reduceMul, Nat.reduceLT, Nat.reduceLeDiff, Int.reduceToNat]
        rcases c5 : w.all digC with _ | _
        · rw [c5, if_pos (show (!false) = true from rfl)] at hnum
          rw [c5] at htn
          refine .inl ⟨_, htr, ?_⟩; try simp only [go_sem, Int.reduceEq, Int.reduceLT, Nat.reduceEqDiff, Nat.reduceAdd, Nat.reduceMul, Nat.reduceLT, Nat.reduceLeDiff, Int.reduceToNat]
          simp only [htn, go_sem, Int.reduceEq, Int.reduceLT, Nat.reduceEqDiff, Nat.reduceAdd, Nat.reduceMul, Nat.reduceLT, Nat.reduceLeDiff, Int.reduceToNat]
          refine hNc _ (VWp.keep [0,27] [] ?_); simp only [go_sem, Int.reduceEq, Int.reduceLT, Nat.reduceEqDiff, Nat.reduceAdd, Nat.reduceMul, Nat.reduceLT, Nat.reduceLeDiff, Int.reduceToNat]
          refine vif rfl ⟨fun ht => ?_, (fun hf => by first | cases hf | simp at hf)⟩
          refine vwp_seq_k fun Nd hNd => vreg tt_ok hF rfl ?_; simp only [go_sem, Int.reduceEq, Int.reduceLT, Nat.reduceEqDiff, Nat.reduceAdd, Nat.reduceMul, Nat.reduceLT, Nat.reduceLeDiff, Int.reduceToNat]
          refine hNd _ (VWp.keep [2] [] ?_); simp only [go_sem, Int.reduceEq, Int.reduceLT, Nat.reduceEqDiff, Nat.reduceAdd, Nat.reduceMul, Nat.reduceLT, Nat.reduceLeDiff, Int.reduceToNat]
          refine vwp_ret ?_
          simp only [go_sem, Int.reduceEq, Int.reduceLT, Nat.reduceEqDiff, Nat.reduceAdd, Nat.reduceMul, Nat.reduceLT, Nat.reduceLeDiff, Int.reduceToNat]
          first | exact LeV.refl _ | (rw [hnum]; exact LeV.refl _)
        · rw [c5, if_neg (by simp)] at hnum
          rw [c5] at htn
          have hat := Atoi_spec w (by omega) (by omega) c5
          refine .inl ⟨_, htr, ?_⟩; try simp only [go_sem, Int.reduceEq, Int.reduceLT, Nat.reduceEqDiff, Nat.reduceAdd, Nat.reduceMul, Nat.reduceLT, Nat.reduceLeDiff, Int.reduceToNat]
          simp only [htn, go_sem, Int.reduceEq, Int.reduceLT, Nat.reduceEqDiff, Nat.reduceAdd, Nat.reduceMul, Nat.reduceLT, Nat.reduceLeDiff, Int.reduceToNat]
          refine hNc _ (VWp.keep [0,27] [] ?_); simp only [go_sem, Int.reduceEq, Int.reduceLT, Nat.reduceEqDiff, Nat.reduceAdd, Nat.reduceMul, Nat.reduceLT, Nat.reduceLeDiff, Int.reduceToNat]
          refine vif rfl ⟨(fun ht => by first | cases ht | simp at ht), fun hf => ?_⟩
          refine vwp_skip (hNb _ ?_)
          refine vwp_seq_k fun Ne hNe => vreg tt_ok hF rfl ?_; simp only [go_sem, Int.reduceEq, Int.reduceLT, Nat.reduceEqDiff, Nat.reduceAdd, Nat.reduceMul, Nat.reduceLT, Nat.reduceLeDiff, Int.reduceToNat]
          refine .inl ⟨_, hat, ?_⟩; try simp only [go_sem, Int.reduceEq, Int.reduceLT, Nat.reduceEqDiff, Nat.reduceAdd, Nat.reduceMul, Nat.reduceLT, Nat.reduceLeDiff, Int.reduceToNat]
          refine hNe _ (VWp.keepR [3] [] tt_ok hF rfl fun Nf hNf => ?_); simp only [go_sem, Int.reduceEq, Int.reduceLT, Nat.reduceEqDiff, Nat.reduceAdd, Nat.reduceMul, Nat.reduceLT, Nat.reduceLeDiff, Int.reduceToNat]
          refine hNf _ (VWp.keep [2] [] ?_); simp only [go_sem, Int.reduceEq, Int.reduceLT, Nat.reduceEqDiff, Nat.reduceAdd, Nat.reduceMul, Nat.reduceLT, Nat.reduceLeDiff, Int.reduceToNat]
          refine vwp_ret ?_
          simp only [go_sem, Int.reduceEq, Int.reduceLT, Nat.reduceEqDiff, Nat.reduceAdd, Nat.reduceMul, Nat.reduceLT, Nat.reduceLeDiff, Int.reduceToNat]
          first | exact LeV.refl _ | (rw [hnum]; exact LeV.refl _)
end Go.Proofs.YtedbbinlcdgkoaaGreatDoor
