import Derived.Lib.DecodeN
import Derived.Laws.Runes
import Derived.Outline
import Derived.WalkMore
import Derived.RangeFuncNested
import Derived.RangeFuncBound
import Derived.RangeFuncCalls
import Derived.RangeFuncLeaves
import Derived.Shelf.Abstract
import Derived.Shelf.RegionOpen
import Derived.WalkKit
import Derived.OwnWalkIn
import Derived.TacticsInMore
import Derived.LoopNIn
import Derived.LoopIn
import Derived.WalkSpells
import Derived.WalkLawsBesides
import Derived.Test.YtedbbinlcdgkoaaGreatDoorBShelf
import Derived.Test.YtedbbinlcdgkoaaGreatDoorVY
import Derived.Test.YtedbbinlcdgkoaaGreatDoorQL
/- Layer 19: the words of a line (strings.FieldsFuncSeq). -/
namespace Go.Proofs.YtedbbinlcdgkoaaGreatDoor
open Go.RowKit Go.Shelf Go.Lib
-- FUSE
-- LESS
set_option linter.unusedVariables false
set_option linter.unusedSimpArgs false
def fldG : Bs → Bs → List Bs
  | cur, [] => if cur = [] then [] else [cur]
  | cur, c :: t => if c = 32 then (if cur = [] then fldG [] t else cur :: fldG [] t) else fldG (cur ++ [c]) t
theorem fldG_skip : ∀ (x cur t : Bs), (∀ c ∈ x, c ≠ 32) → fldG cur (x ++ t) = fldG (cur ++ x) t
  | [], cur, t, _ => by simp
  | c :: x, cur, t, h => by
    rw [List.cons_append, fldG, if_neg (h c List.mem_cons_self), fldG_skip x (cur ++ [c]) t (fun y hy => h y (List.mem_cons_of_mem _ hy))]
    simp
theorem get_list (l : Bs) (j : Nat) : ((⟨l.toArray⟩ : ByteArray).get! j) = l.getD j 0 := by
  show (l.toArray)[j]! = _
  rw [Array.getElem!_eq_getD, List.getD_eq_getElem?_getD, Array.getD_eq_getD_getElem?]
  simp
  rfl
theorem dec_spec (c : UInt8) (t : Bs) : (c = 32 → decodeGo ⟨(c :: t).toArray⟩ = (32, 1)) ∧
    (c ≠ 32 → (decodeGo ⟨(c :: t).toArray⟩).1 ≠ 32 ∧ 1 ≤ (decodeGo ⟨(c :: t).toArray⟩).2 ∧ (decodeGo ⟨(c :: t).toArray⟩).2 ≤ t.length + 1 ∧ ∀ x ∈ (c :: t).take (decodeGo ⟨(c :: t).toArray⟩).2, x ≠ 32) := by
  have hsz : (⟨(c :: t).toArray⟩ : ByteArray).size = t.length + 1 := by show ((c :: t).toArray).size = _; simp
  have hd : decodeGo ⟨(c :: t).toArray⟩ = decodeN (t.length + 1) c.toNat (t.getD 0 0).toNat (t.getD 1 0).toNat (t.getD 2 0).toNat := by
    unfold decodeGo
    rw [if_neg (by rw [hsz]; omega), decode_at, hsz, get_list, get_list, get_list, get_list]
    rfl
  rw [hd]
  have hc : c.toNat < 256 := c.toNat_lt
  have e32 : c = 32 ↔ c.toNat = 32 := ⟨fun h => by rw [h]; rfl, fun h => UInt8.toNat_inj.1 (by rw [h]; rfl)⟩
  have key : ∀ n, n ≤ t.length + 1 → c ≠ 32 → (∀ j, j + 1 < n → 128 ≤ (t.getD j 0).toNat) → ∀ x ∈ (c :: t).take n, x ≠ 32 := by
    intro n hn hc h x hx e
    subst e
    obtain ⟨j, hj, he⟩ := List.getElem_of_mem hx
    rw [List.getElem_take] at he
    rw [List.length_take, List.length_cons] at hj
    cases j with
    | zero => exact hc (by simpa using he)
    | succ j =>
      have := h j (by omega)
      have h2 : j < t.length := by omega
      rw [List.getD_eq_getElem?_getD, List.getElem?_eq_getElem h2] at this
      have he : t[j] = 32 := by simpa using he
      rw [Option.getD_some, he] at this
      exact absurd this (by decide)
  constructor
  · intro h
    have := e32.1 h
    unfold decodeN
    rw [if_pos (by omega), this]
  · intro h
    have hn : c.toNat ≠ 32 := fun q => h (e32.2 q)
    unfold decodeN
    repeat' split
    all_goals
      refine ⟨?_, ?_, ?_, key _ ?_ h fun j hj => ?_⟩
    all_goals first
      | (simp only; omega)
      | (simp only at hj; have hj3 : j = 0 ∨ j = 1 ∨ j = 2 := by omega
         rcases hj3 with rfl | rfl | rfl <;> omega)
def wordsT (s : Bs) : List Bs := fldG [] s
set_option maxHeartbeats 4000000 in
set_option maxRecDepth 4000 in
theorem blank_spec (x : Nat) : Spec Tryz.prog 71 [.int .i32 (x : Int)] (.bool (decide (x = 32))) := by
  have e : decide ((x : Int) = 32) = decide (x = 32) := decide_eq_decide.2 (by omega)
  refine spec_of tt_ok Tryz.func71 rfl (by decide) Tryz.ntmps71 (congrArg Array.toList Tryz.results71) (by simp) (by decide) rfl rfl (fun F hF => ?_)
  refine vwp_seq_k fun Na hNa => vreg tt_ok hF rfl ?_; simp only [go_sem, Int.reduceEq, Int.reduceLT, Nat.reduceEqDiff, Nat.reduceAdd, Nat.reduceMul, Nat.reduceLT, Nat.reduceLeDiff, Int.reduceToNat]
  refine hNa _ (VWp.keepR [0] [] tt_ok hF rfl fun Nb hNb => ?_); simp only [e, go_sem, Int.reduceEq, Int.reduceLT, Nat.reduceEqDiff, Nat.reduceAdd, Nat.reduceMul, Nat.reduceLT, Nat.reduceLeDiff, Int.reduceToNat]
  refine hNb _ (VWp.keep [2] [] ?_); simp only [go_sem, Int.reduceEq, Int.reduceLT, Nat.reduceEqDiff, Nat.reduceAdd, Nat.reduceMul, Nat.reduceLT, Nat.reduceLeDiff, Int.reduceToNat]
  refine vwp_ret ?_
  simp only [go_sem, Int.reduceEq, Int.reduceLT, Nat.reduceEqDiff, Nat.reduceAdd, Nat.reduceMul, Nat.reduceLT, Nat.reduceLeDiff, Int.reduceToNat]
  exact LeV.refl _
theorem grown_chg {W W' : World} (h : Chg [] W W') : W.grownBy W' none := ⟨h.os, h.tape, h.output, h.size, fun k hk _ => h.block k hk (by simp)⟩
theorem bs_ofB (S : ByteArray) : (⟨S.data.toList.toArray⟩ : ByteArray) = S := by cases S; simp
theorem text_inj {S T : ByteArray} (h : S.data.toList = T.data.toList) : S = T := by
  cases S; cases T; simp only at h; congr 1; exact Array.toList_inj.1 h
set_option maxRecDepth 100000 in
set_option maxHeartbeats 4000000 in
theorem fields_in (n : Nat) (hn : 1 ≤ n) (l : Nat) (sA fA : Nat × Nat) (s : Bs) (hs : s.length ≤ 1000000) (J Jx : List Bs → World → Prop) (B : Nat) (hJ : AbidesFrom B J)
    (hY : ∀ pre x W, J pre W → pre.length < s.length + 2 → YieldAt Fence.wide (n - 1) Tryz.prog l #[strW x] W fun e W' =>
      (e = .returned (.bool true) ∧ J (pre ++ [x]) W' ∧ KpF s 71 sA fA W W') ∨ (e = .returned (.bool false) ∧ Jx (pre ++ [x]) W'))
    (W : World) (hs1 : W.cell? ⟨sA.1, sA.2, none⟩ = some (strW s)) (hf1 : W.cell? ⟨fA.1, fA.2, none⟩ = some (.func (.func 71) #[] #[])) (hG : GcW W) (h0 : J [] W) :
    CallsIn Fence.wide n Tryz.prog 100 #[.func (.yield l) #[] #[], .pointer (some ⟨sA.1, sA.2, none⟩), .pointer (some ⟨fA.1, fA.2, none⟩)] W fun e W' => (∃ v, e = .returned v) ∧
      ((∃ xs, xs = wordsT s ∧ J xs W') ∨ (∃ pre, pre <+: wordsT s ∧ Jx pre W')) := by
  obtain ⟨S, hS⟩ : ∃ S : ByteArray, (⟨s.toArray⟩ : ByteArray) = S := ⟨_, rfl⟩
  have hSd : S.data.toList = s := by rw [← hS]
  have hSs : S.size = s.length := by rw [← hS]; rfl
  unfold strW at hs1
  rw [hS] at hs1
  have HS1 := hid hs1
  have HF1 := hid hf1
  have HG := hid hG
  refine callsIn_of_wp Tryz.func100 rfl trivial ?_ rfl
  simp only [Tryz.ntmps100, List.size_toArray, List.length_cons, List.length_nil, Nat.reduceAdd, Nat.reduceSub, Array.replicate_succ, Array.replicate_zero, List.push_toArray, List.append_toArray, List.nil_append, List.cons_append]
  clear hs1 hf1 hG hS
  gi_wp2
  gi_loopw [4, 5] (fun s4 s5 wr => ∃ (pre : List Bs) (i : Nat) (st : Int), s4 = .int .i64 st ∧ s5 = .int .i64 i ∧ i ≤ s.length ∧ -1 ≤ st ∧ st < (i : Int) ∧ pre.length ≤ i ∧ Hid (wordsT s = pre ++ fldG (if st < 0 then [] else (s.take i).drop st.toNat) (s.drop i)) ∧ Hid (J pre wr) ∧
    Hid (wr.cell? ⟨sA.1, sA.2, none⟩ = some (.string S)) ∧ Hid (wr.cell? ⟨fA.1, fA.2, none⟩ = some (.func (.func 71) #[] #[])) ∧ Hid (GcW wr)) (fun _ i _ => s.length - (intOf i).toNat)
  case atStart => exact ⟨[], 0, -1, rfl, rfl, by omega, by omega, by omega, by simp, by simp [wordsT, Hid], h0, HS1, HF1, HG⟩
  case round =>
    obtain ⟨pre, i, st, rfl, rfl, hi, hst1, hst2, hpl, hw, hJs, hc1, hc2, hg⟩ := hrel
    have c1 := hc1.out
    have c2 := hc2.out
    have hSi : (S.size : Int) = (s.length : Int) := by omega
    have hlen1 : pre.length < s.length + 2 := by omega
    have hSmax : S.size ≤ 1000000 := by omega
    have hdec : ∀ X : ByteArray, ∀ r m : Nat, Lib.decodeGo X = (r, m) → ∀ W, GcW W → Calls Tryz.prog 81 #[.string X] W fun e w' => e = .returned (.tuple #[.int .i32 r, .int .i64 m]) ∧ Chg [] W w' := fun X r m h W hg =>
      (Tryz.utf8_DecodeRuneInString X W hg.2.2.2).mono fun e w' ⟨a, b⟩ => ⟨by rw [a, h], Chg.of_below b []⟩
    have hbl : ∀ x : Nat, ∀ W, GcW W → Calls Tryz.prog 71 #[.int .i32 (x : Int)] W fun e w' => e = .returned (.bool (decide (x = 32))) ∧ Chg [] W w' := fun x W hg => (pred_of (fun x => decide (x = 32)) blank_spec x W hg).mono fun e w' ⟨a, b⟩ => ⟨a, Chg.of_below b []⟩
    have HDEC := hid hdec
    have HBL := hid hbl
    clear hdec hbl HS1 HF1 HG h0
    rcases Nat.lt_or_ge i s.length with hil | hil
    · obtain ⟨X, hX⟩ : ∃ X : ByteArray, (⟨(s.drop i).toArray⟩ : ByteArray) = X := ⟨_, rfl⟩
      have e0 : S.extract i s.length = X := by
        rw [← hX]; apply text_inj; rw [ByteArray.data_extract, Array.toList_extract, hSd]; simp only [List.extract_eq_take_drop]; exact List.take_of_length_le (by simp)
      have hcons : s.drop i = s[i] :: s.drop (i + 1) := List.drop_eq_getElem_cons hil
      obtain ⟨d1, d2⟩ := dec_spec s[i] (s.drop (i + 1))
      rw [← hcons, hX] at d1 d2
      obtain ⟨⟨r, m⟩, hrm⟩ : ∃ q, Lib.decodeGo X = q := ⟨_, rfl⟩
      rw [hrm] at d1 d2
      have hd := HDEC.out X r m hrm
      have hb := HBL.out r
      have hlt : (i : Int) < (S.size : Int) := by omega
      have hle : i ≤ S.size := by omega
      have hil0 : (0 : Int) ≤ (i : Int) := by omega
      have hleI : (i : Int) ≤ (S.size : Int) := by omega
      have hst3 : st = -1 ∨ ∃ k : Nat, st = (k : Int) := by
        rcases Int.lt_or_le st 0 with q | q
        · exact .inl (by omega)
        · exact .inr ⟨st.toNat, by omega⟩
      by_cases hc : s[i] = 32
      · have hrm1 := d1 hc
        injection hrm1 with e1 e2
        subst e1; subst e2
        have hw1 : IntKind.i64.wrap ((i : Int) + 1) = (i : Int) + 1 := wrap_i64 (by omega) (by omega)
        have HD := hid hd
        have HB := hid (show ∀ W, GcW W → Calls Tryz.prog 71 #[.int .i32 32] W fun e w' => e = .returned (.bool true) ∧ Chg [] W w' from fun W hg => by simpa using hb W hg)
        clear hd hb d1 d2 hrm HDEC HBL
        rcases hst3 with rfl | ⟨k, rfl⟩
        · have hnew := hid (show wordsT s = pre ++ fldG (if (-1 : Int) < 0 then [] else (s.take (i + 1)).drop (-1 : Int).toNat) (s.drop (i + 1)) from by
            rw [hw.out, if_pos (by omega), if_pos (by omega), hcons, fldG, if_pos hc, if_pos rfl])
          gi_wp2_with (refine ⟨trivial, ?_⟩; first
            | (gi_at_call 81; refine (callsIn_wide.2 (HD.out _ hg.out)).mono ?_; rintro e w' ⟨rfl, hcw⟩; have c1' := hcw.cell c1 (by simp); have c2' := hcw.cell c2 (by simp); have hg1 := hid (gc_chg hg.out hcw); have hcw0 := hid hcw; clear hcw)
            | (gi_at_call 71; refine (callsIn_wide.2 (HB.out _ hg1.out)).mono ?_; rintro e w2 ⟨rfl, hcw2⟩; have c3 := hcw2.cell c1' (by simp); have c4 := hcw2.cell c2' (by simp); have hg2 := hid (gc_chg hg1.out hcw2); have hcc := hid (hcw0.out.trans hcw2); clear hcw2))
          go_roundw
          case rel =>
            refine ⟨_, _, _, _, _, _, _, _, _, _, _, _, _, _, _, _, _, _, _, _, _, _, _, _, _, _, _, _, _, _, _, _, _, ⟨pre, i + 1, -1, rfl, rfl, hil, by omega, by omega, by omega, hnew, hid (hJ _ _ _ _ hJs.out (grown_chg hcc.out) (fun r e => by cases e)), hid c3, hid c4, hg2⟩, rfl⟩
          case measure =>
            show s.length - (i + 1) < s.length - i
            omega
        · have hki : k < i := by omega
          obtain ⟨Y, hY2⟩ : ∃ Y : ByteArray, (⟨((s.take i).drop k).toArray⟩ : ByteArray) = Y := ⟨_, rfl⟩
          have e1 : S.extract k i = Y := by
            rw [← hY2]; apply text_inj; rw [ByteArray.data_extract, Array.toList_extract, hSd]; simp [List.extract_eq_take_drop, List.drop_take]
          have hk0 : (0 : Int) ≤ (k : Int) := by omega
          have hki2 : (k : Int) ≤ (i : Int) := by omega
          have hne : (s.take i).drop k ≠ [] := fun q => by
            have := congrArg List.length q
            rw [List.length_drop, List.length_take, List.length_nil] at this; omega
          have hnew := hid (show wordsT s = (pre ++ [(s.take i).drop k]) ++ fldG (if (-1 : Int) < 0 then [] else (s.take (i + 1)).drop (-1 : Int).toNat) (s.drop (i + 1)) from by
            rw [hw.out, if_neg (by omega), if_pos (by omega), hcons, fldG, if_pos hc, Int.toNat_natCast, if_neg hne]; simp)
          have hpx := hid (show pre ++ [(s.take i).drop k] <+: wordsT s from by rw [hnew.out]; exact List.prefix_append _ _)
          gi_wp2_with (refine ⟨trivial, ?_⟩; first
            | (gi_at_call 81; refine (callsIn_wide.2 (HD.out _ hg.out)).mono ?_; rintro e w' ⟨rfl, hcw⟩; have c1' := hcw.cell c1 (by simp); have c2' := hcw.cell c2 (by simp); have hg1 := hid (gc_chg hg.out hcw); have hcw0 := hid hcw; clear hcw)
            | (gi_at_call 71; refine (callsIn_wide.2 (HB.out _ hg1.out)).mono ?_; rintro e w2 ⟨rfl, hcw2⟩; have c3 := hcw2.cell c1' (by simp); have c4 := hcw2.cell c2' (by simp); have hg2 := hid (gc_chg hg1.out hcw2); have hcc := hid (hcw0.out.trans hcw2); clear hcw2))
          obtain ⟨fn, tmps, assign, body, hy, hR⟩ := hY pre ((s.take i).drop k) w2 (hJ _ _ _ _ hJs.out (grown_chg hcc.out) (fun r e => by cases e)) hlen1
          unfold strW at hy
          rw [hY2] at hy
          rw [hy, Oper.uponIn_round]
          refine ⟨(fun h => by simp [Fence.wide] at h), hR.mono ?_⟩
          rintro e W3 (⟨rfl, hJ3, hk3⟩ | ⟨rfl, hJx3⟩)
          · have c5 := hk3.1 (by unfold strW; rw [← hSd, bs_ofB]; exact c3)
            have c6 := hk3.2.1 c4
            unfold strW at c5
            rw [← hSd, bs_ofB] at c5
            have hg3 := hid (hk3.2.2 hg2.out)
            have HJ3 := hid hJ3
            clear hk3 hJ3 hy hR
            gi_wp2
            go_roundw
            case rel =>
              refine ⟨_, _, _, _, _, _, _, _, _, _, _, _, _, _, _, _, _, _, _, _, _, _, _, _, _, _, _, _, _, _, _, _, _, ⟨pre ++ [(s.take i).drop k], i + 1, -1, rfl, rfl, hil, by omega, by omega, by rw [List.length_append, List.length_singleton]; omega, hnew, HJ3, hid c5, hid c6, hg3⟩, rfl⟩
            case measure =>
              show s.length - (i + 1) < s.length - i
              omega
          · have HX := hid hJx3
            clear hJx3 hy hR
            gi_wp2
            refine bodyPost_ret (results_none rfl _ _ _) rfl ?_
            exact ⟨⟨_, rfl⟩, .inr ⟨_, hpx.out, HX.out⟩⟩
      · obtain ⟨q1, q2, q3, q4⟩ := d2 hc
        have hw1 : IntKind.i64.wrap ((i : Int) + (m : Int)) = ((i + m : Nat) : Int) := by rw [wrap_i64 (by simp only at q3; rw [List.length_drop] at q3; omega) (by simp only at q3; rw [List.length_drop] at q3; omega)]; omega
        have him : i + m ≤ s.length := by simp only at q3; rw [List.length_drop] at q3; omega
        have hm1 : 1 ≤ m := q2
        have hsplit : s.drop i = (s.drop i).take m ++ s.drop (i + m) := by
          conv => lhs; rw [← List.take_append_drop m (s.drop i)]
          rw [List.drop_drop]
        have hskip : ∀ cur, fldG cur (s.drop i) = fldG (cur ++ (s.drop i).take m) (s.drop (i + m)) := fun cur => by
          conv => lhs; rw [hsplit]
          rw [fldG_skip _ _ _ (fun x hx => q4 x (by simpa using hx))]
        have hbf : decide (r = 32) = false := decide_eq_false q1
        have HD := hid hd
        have HB := hid (show ∀ W, GcW W → Calls Tryz.prog 71 #[.int .i32 (r : Int)] W fun e w' => e = .returned (.bool false) ∧ Chg [] W w' from fun W hg => by have := hb W hg; rw [hbf] at this; exact this)
        clear hd hb d1 d2 hrm HDEC HBL q1 q2 q3 q4 hbf
        rcases hst3 with rfl | ⟨k, rfl⟩
        · have hnew := hid (show wordsT s = pre ++ fldG (if ((i : Nat) : Int) < 0 then [] else (s.take (i + m)).drop ((i : Nat) : Int).toNat) (s.drop (i + m)) from by
            rw [hw.out, if_pos (by omega), if_neg (by omega), hskip, Int.toNat_natCast, List.nil_append, List.drop_take, Nat.add_sub_cancel_left])
          clear hskip hsplit hc
          gi_wp2_with (refine ⟨trivial, ?_⟩; first
            | (gi_at_call 81; refine (callsIn_wide.2 (HD.out _ hg.out)).mono ?_; rintro e w' ⟨rfl, hcw⟩; have c1' := hcw.cell c1 (by simp); have c2' := hcw.cell c2 (by simp); have hg1 := hid (gc_chg hg.out hcw); have hcw0 := hid hcw; clear hcw)
            | (gi_at_call 71; refine (callsIn_wide.2 (HB.out _ hg1.out)).mono ?_; rintro e w2 ⟨rfl, hcw2⟩; have c3 := hcw2.cell c1' (by simp); have c4 := hcw2.cell c2' (by simp); have hg2 := hid (gc_chg hg1.out hcw2); have hcc := hid (hcw0.out.trans hcw2); clear hcw2))
          go_roundw
          case rel =>
            refine ⟨_, _, _, _, _, _, _, _, _, _, _, _, _, _, _, _, _, _, _, _, _, _, _, _, _, _, _, _, _, _, _, _, _, ⟨pre, i + m, (i : Int), rfl, rfl, him, by omega, by omega, by omega, hnew, hid (hJ _ _ _ _ hJs.out (grown_chg hcc.out) (fun r e => by cases e)), hid c3, hid c4, hg2⟩, rfl⟩
          case measure =>
            show s.length - (i + m) < s.length - i
            omega
        · have hki : k < i := by omega
          have hk0 : (0 : Int) ≤ (k : Int) := by omega
          have hnew := hid (show wordsT s = pre ++ fldG (if ((k : Nat) : Int) < 0 then [] else (s.take (i + m)).drop ((k : Nat) : Int).toNat) (s.drop (i + m)) from by
            rw [hw.out, if_neg (by omega), if_neg (by omega), hskip, Int.toNat_natCast, List.take_add, List.drop_append_of_le_length (by rw [List.length_take]; omega)])
          clear hskip hsplit hc
          gi_wp2_with (refine ⟨trivial, ?_⟩; first
            | (gi_at_call 81; refine (callsIn_wide.2 (HD.out _ hg.out)).mono ?_; rintro e w' ⟨rfl, hcw⟩; have c1' := hcw.cell c1 (by simp); have c2' := hcw.cell c2 (by simp); have hg1 := hid (gc_chg hg.out hcw); have hcw0 := hid hcw; clear hcw)
            | (gi_at_call 71; refine (callsIn_wide.2 (HB.out _ hg1.out)).mono ?_; rintro e w2 ⟨rfl, hcw2⟩; have c3 := hcw2.cell c1' (by simp); have c4 := hcw2.cell c2' (by simp); have hg2 := hid (gc_chg hg1.out hcw2); have hcc := hid (hcw0.out.trans hcw2); clear hcw2))
          go_roundw
          case rel =>
            refine ⟨_, _, _, _, _, _, _, _, _, _, _, _, _, _, _, _, _, _, _, _, _, _, _, _, _, _, _, _, _, _, _, _, _, ⟨pre, i + m, (k : Int), rfl, rfl, him, by omega, by omega, by omega, hnew, hid (hJ _ _ _ _ hJs.out (grown_chg hcc.out) (fun r e => by cases e)), hid c3, hid c4, hg2⟩, rfl⟩
          case measure =>
            show s.length - (i + m) < s.length - i
            omega
    · have hie : i = s.length := by omega
      subst hie
      have hw0 := hw.out
      rw [List.drop_length, List.take_length] at hw0
      have hSl : (s.length : Int) ≤ (S.size : Int) := by omega
      rcases (show st = -1 ∨ ∃ k : Nat, st = (k : Int) from by rcases Int.lt_or_le st 0 with q | q; exact .inl (by omega); exact .inr ⟨st.toNat, by omega⟩) with rfl | ⟨k, rfl⟩
      · have hfin := hid (show wordsT s = pre from by rw [hw0, if_pos (by omega)]; simp [fldG])
        gi_wp2
        go_end0
        exact ⟨⟨_, rfl⟩, .inl ⟨_, hfin.out.symm, hJs.out⟩⟩
      · have hki : k < s.length := by omega
        have hk0 : (0 : Int) ≤ (k : Int) := by omega
        have hkS : k ≤ S.size := by omega
        have hkI : (k : Int) ≤ (s.length : Int) := by omega
        obtain ⟨Y, hY2⟩ : ∃ Y : ByteArray, (⟨(s.drop k).toArray⟩ : ByteArray) = Y := ⟨_, rfl⟩
        have e1 : S.extract k s.length = Y := by
          rw [← hY2]; apply text_inj; rw [ByteArray.data_extract, Array.toList_extract, hSd]; simp only [List.extract_eq_take_drop]; exact List.take_of_length_le (by simp)
        have hne : s.drop k ≠ [] := fun q => by
          have := congrArg List.length q
          rw [List.length_drop, List.length_nil] at this; omega
        have hfin := hid (show wordsT s = pre ++ [s.drop k] from by rw [hw0, if_neg (by omega), Int.toNat_natCast, fldG, if_neg hne])
        obtain ⟨fn, tmps, assign, body, hy, hR⟩ := hY pre (s.drop k) wr hJs.out (by omega)
        unfold strW at hy
        rw [hY2] at hy
        gi_wp2
        refine hR.mono ?_
        rintro e W3 (⟨rfl, hJ3, hk3⟩ | ⟨rfl, hJx3⟩)
        · have HJ3 := hid hJ3
          clear hJ3 hk3
          gi_wp2
          go_end0
          exact ⟨⟨_, rfl⟩, .inl ⟨_, hfin.out.symm, HJ3.out⟩⟩
        · have HX := hid hJx3
          clear hJx3
          gi_wp2
          go_end0
          exact ⟨⟨_, rfl⟩, .inr ⟨_, by rw [hfin.out]; exact List.prefix_rfl, HX.out⟩⟩
theorem fields_seq (n : Nat) (hn : 1 ≤ n) (s : Bs) (hs : s.length ≤ 1000000) (W : World) (sA fA : Nat × Nat) (h1 : W.cell? ⟨sA.1, sA.2, none⟩ = some (strW s)) (h2 : W.cell? ⟨fA.1, fA.2, none⟩ = some (.func (.func 71) #[] #[])) (hG : GcW W) :
    SeqStopsK Fence.wide n Tryz.prog 100 #[.pointer (some ⟨sA.1, sA.2, none⟩), .pointer (some ⟨fA.1, fA.2, none⟩)] (fun x => #[strW x]) (KpF s 71 sA fA) (fun xs => xs = wordsT s) (fun pre => pre <+: wordsT s) (s.length + 2) W :=
  fun l J Jx W1 hW hJ hJx hY h0 => by
    have hc := Chg.of_below hW []
    exact fields_in n hn l sA fA s hs J Jx W1.heap.size hJ hY W1 (hc.cell h1 (by simp)) (hc.cell h2 (by simp)) (gc_chg hG hc) h0
set_option maxHeartbeats 4000000 in
set_option maxRecDepth 4000 in
theorem Fields_spec (s : Bs) : Spec Tryz.prog 70 [.str s, .fn (.func 71) []] (.fn (.func 100) [.rp [.str s] 0, .rp [.fn (.func 71) []] 0]) := by
  refine spec_of tt_ok Tryz.func70 rfl (by decide) Tryz.ntmps70 (congrArg Array.toList Tryz.results70) (by simp) (by decide) rfl rfl (fun F hF => ?_)
  refine vwp_seq_k fun Na hNa => vreg tt_ok hF rfl ?_; simp only [go_sem, Int.reduceEq, Int.reduceLT, Nat.reduceEqDiff, Nat.reduceAdd, Nat.reduceMul, Nat.reduceLT, Nat.reduceLeDiff, Int.reduceToNat]
  refine hNa _ (VWp.keepR [2,3] [2,3] tt_ok hF rfl fun Nb hNb => ?_); simp only [go_sem, Int.reduceEq, Int.reduceLT, Nat.reduceEqDiff, Nat.reduceAdd, Nat.reduceMul, Nat.reduceLT, Nat.reduceLeDiff, Int.reduceToNat]
  refine hNb _ (VWp.calm [4] ?_)
  simp only [calmT, go_sem, Int.reduceEq, Int.reduceLT, Nat.reduceEqDiff, Nat.reduceAdd, Nat.reduceMul, Nat.reduceLT, Nat.reduceLeDiff, Int.reduceToNat]
  refine vwp_ret ?_
  simp only [go_sem, Int.reduceEq, Int.reduceLT, Nat.reduceEqDiff, Nat.reduceAdd, Nat.reduceMul, Nat.reduceLT, Nat.reduceLeDiff, Int.reduceToNat]
  exact LeV.refl _
set_option maxHeartbeats 4000000 in
set_option maxRecDepth 4000 in
theorem words_spec (s : Bs) : Spec Tryz.prog 44 [.str s] (.fn (.func 100) [.rp [.str s] 0, .rp [.fn (.func 71) []] 0]) := by
  have hf := Fields_spec s
  refine spec_of tt_ok Tryz.func44 rfl (by decide) Tryz.ntmps44 (congrArg Array.toList Tryz.results44) (by simp) (by decide) rfl rfl (fun F hF => ?_)
  refine vwp_seq_k fun Na hNa => vreg tt_ok hF rfl ?_; simp only [go_sem, Int.reduceEq, Int.reduceLT, Nat.reduceEqDiff, Nat.reduceAdd, Nat.reduceMul, Nat.reduceLT, Nat.reduceLeDiff, Int.reduceToNat]
  refine hNa _ (VWp.keepR [0] [] tt_ok hF rfl fun Nb hNb => ?_); simp only [go_sem, Int.reduceEq, Int.reduceLT, Nat.reduceEqDiff, Nat.reduceAdd, Nat.reduceMul, Nat.reduceLT, Nat.reduceLeDiff, Int.reduceToNat]
  refine .inl ⟨_, hf, ?_⟩; try simp only [go_sem, Int.reduceEq, Int.reduceLT, Nat.reduceEqDiff, Nat.reduceAdd, Nat.reduceMul, Nat.reduceLT, Nat.reduceLeDiff, Int.reduceToNat]
  refine hNb _ (VWp.keep [2] [] ?_); simp only [go_sem, Int.reduceEq, Int.reduceLT, Nat.reduceEqDiff, Nat.reduceAdd, Nat.reduceMul, Nat.reduceLT, Nat.reduceLeDiff, Int.reduceToNat]
  refine vwp_ret ?_
  simp only [go_sem, Int.reduceEq, Int.reduceLT, Nat.reduceEqDiff, Nat.reduceAdd, Nat.reduceMul, Nat.reduceLT, Nat.reduceLeDiff, Int.reduceToNat]
  exact LeV.refl _
end Go.Proofs.YtedbbinlcdgkoaaGreatDoor
