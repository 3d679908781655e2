import Derived.Outline
import Derived.Lib.IndexBytes
import Derived.Lib.Split
import Derived.Test.YtedbbinlcdgkoaaGreatDoorQM
import Derived.Test.YtedbbinlcdgkoaaGreatDoorQP

/- Layer 19: the line UNIT. -/
namespace Go.Proofs.YtedbbinlcdgkoaaGreatDoor
open Go.RowKit
-- FUSE
-- LESS
set_option linter.unusedVariables false
set_option linter.unusedSimpArgs false
def kindT (w : Bs) : Int := if w = [82, 69, 65, 68, 69, 82] then 1 else if w = [80, 85, 78, 67, 72] then 2 else if w = [80, 82, 73, 78, 84, 69, 82] then 3 else if w = [84, 65, 80, 69] then 4 else if w = [68, 73, 83, 75] then 5 else 0
theorem knd_find (w : Bs) : (findM kndM w).getD (.int .i64 0) = .int .i64 (kindT w) := by
  unfold kndM kindT
  simp only [findM]
  repeat' split
  all_goals rfl
def wantT (k : Int) : Nat := if k = 4 then 4 else if k = 5 then 6 else 3
theorem want_le (k : Int) : 3 ≤ wantT k ∧ wantT k ≤ 6 := by unfold wantT; split; omega; split <;> omega
def unitL (l : List Bs) : UniT := ⟨addrT (l.getD 1 []), kindT (l.getD 2 []), if 3 < wantT (kindT (l.getD 2 [])) then l.getD 3 [] else [], if 4 < wantT (kindT (l.getD 2 [])) then numT (l.getD 4 []) else 0, if 4 < wantT (kindT (l.getD 2 [])) then numT (l.getD 5 []) else 0⟩
def posT (us : List UniT) (a : Int) : Nat := us.findIdx fun x => decide (a ≤ x.addr)
def lunitT (c : CfgT) (l : List Bs) : CfgT × Bool :=
  if decide (l.length = wantT (kindT (l.getD 2 []))) && decide (c.us.length < 16) && !(c.us[posT c.us (unitL l).addr]?.any fun x => decide (x.addr = (unitL l).addr)) && unitT (unitL l) && !(c.us.any (sameT (unitL l)))
  then ({ c with us := c.us.take (posT c.us (unitL l).addr) ++ unitL l :: c.us.drop (posT c.us (unitL l).addr) }, true) else (c, false)
def sorT (us : List UniT) : Prop := us.Pairwise fun x y => x.addr < y.addr
theorem pos_lt {us : List UniT} {a : Int} {k : Nat} (h : k < us.length) (hk : k < posT us a) : us[k].addr < a := by
  have := List.not_of_lt_findIdx hk
  have := of_decide_eq_false (by simpa using this : decide (a ≤ us[k].addr) = false)
  omega
theorem pos_ge {us : List UniT} (hs : sorT us) {a : Int} {k : Nat} (h : k < us.length) (hk : posT us a ≤ k) : a ≤ us[k].addr := by
  have hp : posT us a < us.length := by omega
  have h1 : a ≤ (us[posT us a]'hp).addr := by
    have := List.findIdx_getElem (w := hp)
    exact of_decide_eq_true this
  rcases Nat.eq_or_lt_of_le hk with e | e
  · have : us[k] = us[posT us a]'hp := by congr 1; exact e.symm
    rw [this]; exact h1
  · have := List.pairwise_iff_getElem.1 hs (posT us a) k hp h e
    omega
theorem pos_le (us : List UniT) (a : Int) : posT us a ≤ us.length := List.findIdx_le_length
set_option maxHeartbeats 16000000 in
set_option maxRecDepth 4000 in
theorem doUnit_B (c : CfgT) (l : List Bs) (h2 : 3 ≤ l.length) (hl : ∀ s ∈ l, s.length ≤ 1000000) (hl2 : l.length ≤ 1000000) (hus : c.us.length ≤ 16) (hso : sorT c.us) (hbd : ∀ x ∈ c.us, -1 ≤ x.addr ∧ x.addr ≤ 65536) :
    SpecB Tryz.prog 68 [.ptr 1000000 0, .sl 1 (l.map strR)] (cfgO c) (.bool (lunitT c l).2) (cfgO (lunitT c l).1) := by
  have hget := str_row (l := l) (k := 1) (by omega)
  have hget2 := str_row (l := l) (k := 2) (by omega)
  have hD : l.getD 1 [] = l[1]'(by omega) := by simp [List.getD_eq_getElem?_getD, List.getElem?_eq_getElem (show 1 < l.length by omega)]
  have hD2 : l.getD 2 [] = l[2]'(by omega) := by simp [List.getD_eq_getElem?_getD, List.getElem?_eq_getElem (show 2 < l.length by omega)]
  have had := address_spec (l[1]'(by omega)) (hl _ (List.getElem_mem _))
  have hkf := knd_find (l[2]'(by omega))
  have hab := addr_bound (l[1]'(by omega))
  obtain ⟨A, hA⟩ : ∃ A, addrT (l[1]'(by omega)) = A := ⟨_, rfl⟩
  obtain ⟨K, hK⟩ : ∃ K, kindT (l[2]'(by omega)) = K := ⟨_, rfl⟩
  rw [hA] at had hab
  rw [hK] at hkf
  have hwl := want_le K
  obtain ⟨u, hu⟩ : ∃ u, unitL l = u := ⟨_, rfl⟩
  have hu2 : u = ⟨A, K, if 3 < wantT K then l.getD 3 [] else [], if 4 < wantT K then numT (l.getD 4 []) else 0, if 4 < wantT K then numT (l.getD 5 []) else 0⟩ := by rw [← hu]; unfold unitL; rw [hD, hD2, hA, hK]
  have hst : lunitT c l = if decide (l.length = wantT K) && decide (c.us.length < 16) && !(c.us[posT c.us A]?.any fun x => decide (x.addr = A)) && unitT u && !(c.us.any (sameT u))
      then ({ c with us := c.us.take (posT c.us A) ++ u :: c.us.drop (posT c.us A) }, true) else (c, false) := by
    unfold lunitT; rw [hu, hD2, hK]
    have : u.addr = A := by rw [hu2]
    rw [this]
  unfold cfgO
  obtain ⟨R, hR⟩ : ∃ R, lunitT c l = R := ⟨_, rfl⟩
  rw [hR] at hst
  rw [hR]
  refine specB_of tt_ok Tryz.func68 rfl (by decide) Tryz.ntmps68 (congrArg Array.toList Tryz.results68) (by simp) (by decide) rfl (by simp only [go_sem, Int.reduceEq, Int.reduceLT, Nat.reduceEqDiff, Nat.reduceAdd, Nat.reduceMul, Nat.reduceLT, Nat.reduceLeDiff, Int.reduceToNat]) (fun F hF => ?_)
  refine vwp_seq_k fun Na hNa => vreg tt_ok hF rfl ?_; simp only [go_sem, Int.reduceEq, Int.reduceLT, Nat.reduceEqDiff, Nat.reduceAdd, Nat.reduceMul, Nat.reduceLT, Nat.reduceLeDiff, Int.reduceToNat]
  refine hNa _ (VWp.keep [0,1] [1000000,1000011,1000002] ?_); simp only [go_sem, Int.reduceEq, Int.reduceLT, Nat.reduceEqDiff, Nat.reduceAdd, Nat.reduceMul, Nat.reduceLT, Nat.reduceLeDiff, Int.reduceToNat]
  refine vmeet (fun _ : Unit => [(0, .ptr 1000000 0), (1, .sl 1 (l.map strR)), (5, .ptr 5 0)]) (fun _ => [(5, .box 58 [.int .i64 A, .int .i64 K, .str [], .int .i64 0, .int .i64 0]), (1000000, .box 25 [.own 1000011 (c.us.map uniC).length, .int .i64 c.store, .own 1000002 (c.ps.map parC).length]), (1000011, .arr 5 58 (c.us.map uniC)), (1000002, .arr 2 65 (c.ps.map parC))]) (fun _ => True) ?_ ?_
  · refine vregord tt_ok mixed hF rfl (.at [13]) [[0, 1, 2, 3, 4, 5, 6, 7, 8, 9, 10, 11], [0, 1, 2, 3, 5, 10, 4, 6, 7, 8, 9, 11], [0, 1, 2, 3, 5, 6, 4, 7, 8, 9, 10, 11], [0, 1, 2, 3, 5, 6, 10, 4, 7, 8, 9, 11], [0, 1, 2, 3, 5, 6, 7, 4, 8, 9, 10, 11], [0, 1, 2, 3, 5, 6, 7, 10, 4, 8, 9, 11]]
      [(12, (.int .i64 A, [])), (13, (.mp 13, [(13, .map kndM)]))] (by kernel_rfl) ⟨?_, ?_, ?_, ?_, ?_, ?_, trivial⟩ <;> simp only [pickL, hget, hget2, List.length_map, go_sem, Int.reduceEq, Int.reduceLT, Nat.reduceEqDiff, Nat.reduceAdd, Nat.reduceMul, Nat.reduceLT, Nat.reduceLeDiff, Int.reduceToNat]
    all_goals
      repeat (first
        | (refine ⟨by omega, ?_⟩; try simp only [hget2, hkf, go_sem, Int.reduceEq, Int.reduceLT, Nat.reduceEqDiff, Nat.reduceAdd, Nat.reduceMul, Nat.reduceLT, Nat.reduceLeDiff, Int.reduceToNat])
        | (refine ⟨rfl, ?_⟩; try simp only [hget2, hkf, go_sem, Int.reduceEq, Int.reduceLT, Nat.reduceEqDiff, Nat.reduceAdd, Nat.reduceMul, Nat.reduceLT, Nat.reduceLeDiff, Int.reduceToNat])
        | (refine .inl ⟨_, had, ?_⟩; try simp only [hget2, hkf, go_sem, Int.reduceEq, Int.reduceLT, Nat.reduceEqDiff, Nat.reduceAdd, Nat.reduceMul, Nat.reduceLT, Nat.reduceLeDiff, Int.reduceToNat])
        | (refine .inr (bxo [(1, 13)] rfl ?_); simp only [go_sem, Int.reduceEq, Int.reduceLT, Nat.reduceEqDiff, Nat.reduceAdd, Nat.reduceMul, Nat.reduceLT, Nat.reduceLeDiff, Int.reduceToNat]; refine ⟨_, _, kinds_B, ?_⟩; try simp only [hget2, hkf, go_sem, Int.reduceEq, Int.reduceLT, Nat.reduceEqDiff, Nat.reduceAdd, Nat.reduceMul, Nat.reduceLT, Nat.reduceLeDiff, Int.reduceToNat]))
      exact ⟨(), by simp⟩
  · intro _ _
    refine vwp_seq_k fun Nc hNc => vreg tt_ok hF rfl ?_; simp only [go_sem, Int.reduceEq, Int.reduceLT, Nat.reduceEqDiff, Nat.reduceAdd, Nat.reduceMul, Nat.reduceLT, Nat.reduceLeDiff, Int.reduceToNat]
    refine hNc _ (VWp.keep [0,1,5,6] [5,1000000,1000011,1000002] ?_); simp only [go_sem, Int.reduceEq, Int.reduceLT, Nat.reduceEqDiff, Nat.reduceAdd, Nat.reduceMul, Nat.reduceLT, Nat.reduceLeDiff, Int.reduceToNat]
    refine vmeet (fun _ : Unit => [(0, .ptr 1000000 0), (1, .sl 1 (l.map strR)), (5, .ptr 5 0), (6, .int .i64 (wantT K : Int))]) (fun _ => [(5, .box 58 [.int .i64 A, .int .i64 K, .str [], .int .i64 0, .int .i64 0]), (1000000, .box 25 [.own 1000011 (c.us.map uniC).length, .int .i64 c.store, .own 1000002 (c.ps.map parC).length]), (1000011, .arr 5 58 (c.us.map uniC)), (1000002, .arr 2 65 (c.ps.map parC))]) (fun _ => True) ?_ ?_
    · refine vwp_seq_k fun Ne hNe => vreg tt_ok hF rfl ?_; simp only [go_sem, Int.reduceEq, Int.reduceLT, Nat.reduceEqDiff, Nat.reduceAdd, Nat.reduceMul, Nat.reduceLT, Nat.reduceLeDiff, Int.reduceToNat]
      refine hNe _ (VWp.keep [0,1,5,6,20] [5,1000000,1000011,1000002] ?_); simp only [go_sem, Int.reduceEq, Int.reduceLT, Nat.reduceEqDiff, Nat.reduceAdd, Nat.reduceMul, Nat.reduceLT, Nat.reduceLeDiff, Int.reduceToNat]
      refine vwp_block ?_
      by_cases k4 : K = 4
      · have ek : decide (K = 4) = true := decide_eq_true k4
        have hw4 : wantT K = 4 := by unfold wantT; rw [if_pos k4]
        refine vwp_seq_k fun Nf hNf => vreg tt_ok hF rfl ?_; simp only [ek, go_sem, Int.reduceEq, Int.reduceLT, Nat.reduceEqDiff, Nat.reduceAdd, Nat.reduceMul, Nat.reduceLT, Nat.reduceLeDiff, Int.reduceToNat]
        refine hNf _ (VWp.keep [0,1,5,6,20,21] [5,1000000,1000011,1000002] ?_); simp only [go_sem, Int.reduceEq, Int.reduceLT, Nat.reduceEqDiff, Nat.reduceAdd, Nat.reduceMul, Nat.reduceLT, Nat.reduceLeDiff, Int.reduceToNat]
        refine vif rfl ⟨fun _ => ?_, (fun hf => by first | exact absurd hf (by decide) | (rw [ek] at hf; exact absurd hf (by decide)))⟩
        refine vreg tt_ok hF rfl ?_; simp only [go_sem, Int.reduceEq, Int.reduceLT, Nat.reduceEqDiff, Nat.reduceAdd, Nat.reduceMul, Nat.reduceLT, Nat.reduceLeDiff, Int.reduceToNat]
        rw [hw4]
        exact ⟨(), by simp⟩
      · have ek : decide (K = 4) = false := decide_eq_false k4
        refine vwp_seq_k fun Nf hNf => vreg tt_ok hF rfl ?_; simp only [ek, go_sem, Int.reduceEq, Int.reduceLT, Nat.reduceEqDiff, Nat.reduceAdd, Nat.reduceMul, Nat.reduceLT, Nat.reduceLeDiff, Int.reduceToNat]
        refine hNf _ (VWp.keep [0,1,5,6,20,21] [5,1000000,1000011,1000002] ?_); simp only [go_sem, Int.reduceEq, Int.reduceLT, Nat.reduceEqDiff, Nat.reduceAdd, Nat.reduceMul, Nat.reduceLT, Nat.reduceLeDiff, Int.reduceToNat]
        refine vif rfl ⟨(fun ht => by first | exact absurd ht (by decide) | (rw [ek] at ht; exact absurd ht (by decide))), fun _ => ?_⟩
        by_cases k5 : K = 5
        · have ek5 : decide (K = 5) = true := decide_eq_true k5
          have hw5 : wantT K = 6 := by unfold wantT; rw [if_neg k4, if_pos k5]
          refine vwp_seq_k fun Nt hNt => vreg tt_ok hF rfl ?_; simp only [ek5, go_sem, Int.reduceEq, Int.reduceLT, Nat.reduceEqDiff, Nat.reduceAdd, Nat.reduceMul, Nat.reduceLT, Nat.reduceLeDiff, Int.reduceToNat]
          refine hNt _ (VWp.keep [0,1,5,6,23] [5,1000000,1000011,1000002] ?_); simp only [go_sem, Int.reduceEq, Int.reduceLT, Nat.reduceEqDiff, Nat.reduceAdd, Nat.reduceMul, Nat.reduceLT, Nat.reduceLeDiff, Int.reduceToNat]
          refine vif rfl ⟨fun _ => ?_, (fun hf => by first | exact absurd hf (by decide) | (rw [ek5] at hf; exact absurd hf (by decide)))⟩
          refine vreg tt_ok hF rfl ?_; simp only [go_sem, Int.reduceEq, Int.reduceLT, Nat.reduceEqDiff, Nat.reduceAdd, Nat.reduceMul, Nat.reduceLT, Nat.reduceLeDiff, Int.reduceToNat]
          rw [hw5]
          exact ⟨(), by simp⟩
        · have ek5 : decide (K = 5) = false := decide_eq_false k5
          have hw3 : wantT K = 3 := by unfold wantT; rw [if_neg k4, if_neg k5]
          refine vwp_seq_k fun Nt hNt => vreg tt_ok hF rfl ?_; simp only [ek5, go_sem, Int.reduceEq, Int.reduceLT, Nat.reduceEqDiff, Nat.reduceAdd, Nat.reduceMul, Nat.reduceLT, Nat.reduceLeDiff, Int.reduceToNat]
          refine hNt _ (VWp.keep [0,1,5,6,23] [5,1000000,1000011,1000002] ?_); simp only [go_sem, Int.reduceEq, Int.reduceLT, Nat.reduceEqDiff, Nat.reduceAdd, Nat.reduceMul, Nat.reduceLT, Nat.reduceLeDiff, Int.reduceToNat]
          refine vif rfl ⟨(fun ht => by first | exact absurd ht (by decide) | (rw [ek5] at ht; exact absurd ht (by decide))), fun _ => ?_⟩
          refine vwp_skip ?_
          simp only [go_sem, Int.reduceEq, Int.reduceLT, Nat.reduceEqDiff, Nat.reduceAdd, Nat.reduceMul, Nat.reduceLT, Nat.reduceLeDiff, Int.reduceToNat]
          rw [hw3]
          exact ⟨(), by simp⟩
    · intro _ _
      refine vwp_seq_k fun Ng hNg => ?_
      by_cases c1 : l.length = wantT K ∧ c.us.length < 16
      rotate_left
      · have hst : R = (c, false) := by
          rw [hst, if_neg]
          intro q
          simp only [Bool.and_eq_true, decide_eq_true_eq] at q
          exact c1 ⟨q.1.1.1.1, q.1.1.1.2⟩
        by_cases c2 : l.length = wantT K
        · have e1 : decide ((l.length : Int) = (wantT K : Int)) = true := decide_eq_true (by omega)
          have e2 : decide ((16 : Int) ≤ (c.us.length : Int)) = true := decide_eq_true (by omega)
          refine vwp_seq_k fun Nh hNh => vreg tt_ok hF rfl ?_; simp only [e1, e2, List.length_map, go_sem, Int.reduceEq, Int.reduceLT, Nat.reduceEqDiff, Nat.reduceAdd, Nat.reduceMul, Nat.reduceLT, Nat.reduceLeDiff, Int.reduceToNat]
          refine hNh _ (VWp.keep [0,1,5,6,36] [5,1000000,1000011,1000002] ?_); simp only [go_sem, Int.reduceEq, Int.reduceLT, Nat.reduceEqDiff, Nat.reduceAdd, Nat.reduceMul, Nat.reduceLT, Nat.reduceLeDiff, Int.reduceToNat]
          refine vif rfl ⟨fun _ => ?_, (fun hf => by first | exact absurd hf (by decide) | (rw [e2] at hf; exact absurd hf (by decide)))⟩
          refine vwp_seq_k fun Ni hNi => vreg tt_ok hF rfl ?_; simp only [go_sem, Int.reduceEq, Int.reduceLT, Nat.reduceEqDiff, Nat.reduceAdd, Nat.reduceMul, Nat.reduceLT, Nat.reduceLeDiff, Int.reduceToNat]
          refine hNi _ (VWp.keep [4] [1000000,1000011,1000002] ?_); simp only [go_sem, Int.reduceEq, Int.reduceLT, Nat.reduceEqDiff, Nat.reduceAdd, Nat.reduceMul, Nat.reduceLT, Nat.reduceLeDiff, Int.reduceToNat]
          refine vwp_ret ?_
          simp only [hst, go_sem, Int.reduceEq, Int.reduceLT, Nat.reduceEqDiff, Nat.reduceAdd, Nat.reduceMul, Nat.reduceLT, Nat.reduceLeDiff, Int.reduceToNat]
          first | done | exact LeV.refl _ | exact ⟨LeV.refl _, by first | rfl | simp⟩
        · have e1 : decide ((l.length : Int) = (wantT K : Int)) = false := decide_eq_false (by omega)
          refine vwp_seq_k fun Nh hNh => vreg tt_ok hF rfl ?_; simp only [e1, List.length_map, go_sem, Int.reduceEq, Int.reduceLT, Nat.reduceEqDiff, Nat.reduceAdd, Nat.reduceMul, Nat.reduceLT, Nat.reduceLeDiff, Int.reduceToNat]
          refine hNh _ (VWp.keep [0,1,5,6,36] [5,1000000,1000011,1000002] ?_); simp only [go_sem, Int.reduceEq, Int.reduceLT, Nat.reduceEqDiff, Nat.reduceAdd, Nat.reduceMul, Nat.reduceLT, Nat.reduceLeDiff, Int.reduceToNat]
          refine vif rfl ⟨fun _ => ?_, (fun hf => by first | exact absurd hf (by decide) | (rw [e1] at hf; exact absurd hf (by decide)))⟩
          refine vwp_seq_k fun Ni hNi => vreg tt_ok hF rfl ?_; simp only [go_sem, Int.reduceEq, Int.reduceLT, Nat.reduceEqDiff, Nat.reduceAdd, Nat.reduceMul, Nat.reduceLT, Nat.reduceLeDiff, Int.reduceToNat]
          refine hNi _ (VWp.keep [4] [1000000,1000011,1000002] ?_); simp only [go_sem, Int.reduceEq, Int.reduceLT, Nat.reduceEqDiff, Nat.reduceAdd, Nat.reduceMul, Nat.reduceLT, Nat.reduceLeDiff, Int.reduceToNat]
          refine vwp_ret ?_
          simp only [hst, go_sem, Int.reduceEq, Int.reduceLT, Nat.reduceEqDiff, Nat.reduceAdd, Nat.reduceMul, Nat.reduceLT, Nat.reduceLeDiff, Int.reduceToNat]
          first | done | exact LeV.refl _ | exact ⟨LeV.refl _, by first | rfl | simp⟩
      · obtain ⟨c1, c2⟩ := c1
        have e1 : decide ((l.length : Int) = (wantT K : Int)) = true := decide_eq_true (by omega)
        have e2 : decide ((16 : Int) ≤ (c.us.length : Int)) = false := decide_eq_false (by omega)
        refine vwp_seq_k fun Nh hNh => vreg tt_ok hF rfl ?_; simp only [e1, e2, List.length_map, go_sem, Int.reduceEq, Int.reduceLT, Nat.reduceEqDiff, Nat.reduceAdd, Nat.reduceMul, Nat.reduceLT, Nat.reduceLeDiff, Int.reduceToNat]
        refine hNh _ (VWp.keep [0,1,5,6,36] [5,1000000,1000011,1000002] ?_); simp only [go_sem, Int.reduceEq, Int.reduceLT, Nat.reduceEqDiff, Nat.reduceAdd, Nat.reduceMul, Nat.reduceLT, Nat.reduceLeDiff, Int.reduceToNat]
        refine vif rfl ⟨(fun ht => by first | exact absurd ht (by decide) | (rw [e2] at ht; exact absurd ht (by decide))), fun _ => ?_⟩
        refine vwp_skip (hNg _ ?_)
        refine vmeet (fun _ : Unit => [(0, .ptr 1000000 0), (1, .sl 1 (l.map strR)), (5, .ptr 5 0), (6, .int .i64 (wantT K : Int))]) (fun _ => [(5, .box 58 [.int .i64 A, .int .i64 K, .str (if 3 < wantT K then l.getD 3 [] else []), .int .i64 0, .int .i64 0]), (1000000, .box 25 [.own 1000011 (c.us.map uniC).length, .int .i64 c.store, .own 1000002 (c.ps.map parC).length]), (1000011, .arr 5 58 (c.us.map uniC)), (1000002, .arr 2 65 (c.ps.map parC))]) (fun _ => True) ?_ ?_
        · by_cases c3 : 3 < wantT K
          · have e3 : decide ((3 : Int) < (wantT K : Int)) = true := decide_eq_true (by omega)
            have hget3 := str_row (l := l) (k := 3) (by omega)
            have hD3 : l.getD 3 [] = l[3]'(by omega) := by simp [List.getD_eq_getElem?_getD, List.getElem?_eq_getElem (show 3 < l.length by omega)]
            refine vwp_seq_k fun Nk hNk => vreg tt_ok hF rfl ?_; simp only [e3, go_sem, Int.reduceEq, Int.reduceLT, Nat.reduceEqDiff, Nat.reduceAdd, Nat.reduceMul, Nat.reduceLT, Nat.reduceLeDiff, Int.reduceToNat]
            refine hNk _ (VWp.keep [0,1,5,6,38] [5,1000000,1000011,1000002] ?_); simp only [go_sem, Int.reduceEq, Int.reduceLT, Nat.reduceEqDiff, Nat.reduceAdd, Nat.reduceMul, Nat.reduceLT, Nat.reduceLeDiff, Int.reduceToNat]
            refine vif rfl ⟨fun _ => ?_, (fun hf => by first | exact absurd hf (by decide) | (rw [e3] at hf; exact absurd hf (by decide)))⟩
            refine vreg tt_ok hF rfl ?_; simp only [hget3, List.length_map, go_sem, Int.reduceEq, Int.reduceLT, Nat.reduceEqDiff, Nat.reduceAdd, Nat.reduceMul, Nat.reduceLT, Nat.reduceLeDiff, Int.reduceToNat]
            refine ⟨by omega, ?_⟩
            rw [if_pos c3, hD3]
            exact ⟨(), by simp⟩
          · have e3 : decide ((3 : Int) < (wantT K : Int)) = false := decide_eq_false (by omega)
            refine vwp_seq_k fun Nk hNk => vreg tt_ok hF rfl ?_; simp only [e3, go_sem, Int.reduceEq, Int.reduceLT, Nat.reduceEqDiff, Nat.reduceAdd, Nat.reduceMul, Nat.reduceLT, Nat.reduceLeDiff, Int.reduceToNat]
            refine hNk _ (VWp.keep [0,1,5,6,38] [5,1000000,1000011,1000002] ?_); simp only [go_sem, Int.reduceEq, Int.reduceLT, Nat.reduceEqDiff, Nat.reduceAdd, Nat.reduceMul, Nat.reduceLT, Nat.reduceLeDiff, Int.reduceToNat]
            refine vif rfl ⟨(fun ht => by first | exact absurd ht (by decide) | (rw [e3] at ht; exact absurd ht (by decide))), fun _ => ?_⟩
            refine vwp_skip ?_
            simp only [go_sem, Int.reduceEq, Int.reduceLT, Nat.reduceEqDiff, Nat.reduceAdd, Nat.reduceMul, Nat.reduceLT, Nat.reduceLeDiff, Int.reduceToNat]
            rw [if_neg c3]
            exact ⟨(), by simp⟩
        · intro _ _
          refine vmeet (fun _ : Unit => [(0, .ptr 1000000 0), (5, .ptr 5 0)]) (fun _ => [(5, .box 58 [.int .i64 A, .int .i64 K, .str (if 3 < wantT K then l.getD 3 [] else []), .int .i64 (if 4 < wantT K then numT (l.getD 4 []) else 0), .int .i64 (if 4 < wantT K then numT (l.getD 5 []) else 0)]), (1000000, .box 25 [.own 1000011 (c.us.map uniC).length, .int .i64 c.store, .own 1000002 (c.ps.map parC).length]), (1000011, .arr 5 58 (c.us.map uniC)), (1000002, .arr 2 65 (c.ps.map parC))]) (fun _ => True) ?_ ?_
          · by_cases c4 : 4 < wantT K
            · have e4 : decide ((4 : Int) < (wantT K : Int)) = true := decide_eq_true (by omega)
              have h6 : wantT K = 6 := by
                unfold wantT at c4 ⊢
                by_cases a1 : K = 4
                · rw [if_pos a1] at c4; omega
                · rw [if_neg a1] at c4 ⊢
                  by_cases a2 : K = 5
                  · rw [if_pos a2]
                  · rw [if_neg a2] at c4; omega
              have hget4 := str_row (l := l) (k := 4) (by omega)
              have hD4 : l.getD 4 [] = l[4]'(by omega) := by simp [List.getD_eq_getElem?_getD, List.getElem?_eq_getElem (show 4 < l.length by omega)]
              have hget5 := str_row (l := l) (k := 5) (by omega)
              have hD5 : l.getD 5 [] = l[5]'(by omega) := by simp [List.getD_eq_getElem?_getD, List.getElem?_eq_getElem (show 5 < l.length by omega)]
              have hn4 := number_spec (l[4]'(by omega)) (hl _ (List.getElem_mem _))
              have hn5 := number_spec (l[5]'(by omega)) (hl _ (List.getElem_mem _))
              obtain ⟨x4, q4⟩ : ∃ x, numT (l[4]'(by omega)) = x := ⟨_, rfl⟩
              obtain ⟨x5, q5⟩ : ∃ x, numT (l[5]'(by omega)) = x := ⟨_, rfl⟩
              rw [q4] at hn4
              rw [q5] at hn5
              refine vwp_seq_k fun Nm hNm => vreg tt_ok hF rfl ?_; simp only [e4, go_sem, Int.reduceEq, Int.reduceLT, Nat.reduceEqDiff, Nat.reduceAdd, Nat.reduceMul, Nat.reduceLT, Nat.reduceLeDiff, Int.reduceToNat]
              refine hNm _ (VWp.keep [0,1,5,44] [5,1000000,1000011,1000002] ?_); simp only [go_sem, Int.reduceEq, Int.reduceLT, Nat.reduceEqDiff, Nat.reduceAdd, Nat.reduceMul, Nat.reduceLT, Nat.reduceLeDiff, Int.reduceToNat]
              refine vif rfl ⟨fun _ => ?_, (fun hf => by first | exact absurd hf (by decide) | (rw [e4] at hf; exact absurd hf (by decide)))⟩
              refine vregd tt_ok mixed hF rfl (by kernel_rfl) (by kernel_rfl) ?_; simp only [hget4, hget5, List.length_map, go_sem, Int.reduceEq, Int.reduceLT, Nat.reduceEqDiff, Nat.reduceAdd, Nat.reduceMul, Nat.reduceLT, Nat.reduceLeDiff, Int.reduceToNat]
              refine ⟨by omega, ?_⟩
              refine .inl ⟨_, hn4, ?_⟩; try simp only [go_sem, Int.reduceEq, Int.reduceLT, Nat.reduceEqDiff, Nat.reduceAdd, Nat.reduceMul, Nat.reduceLT, Nat.reduceLeDiff, Int.reduceToNat]
              try simp only [hget5, go_sem, Int.reduceEq, Int.reduceLT, Nat.reduceEqDiff, Nat.reduceAdd, Nat.reduceMul, Nat.reduceLT, Nat.reduceLeDiff, Int.reduceToNat]
              refine ⟨by omega, ?_⟩
              refine .inl ⟨_, hn5, ?_⟩; try simp only [go_sem, Int.reduceEq, Int.reduceLT, Nat.reduceEqDiff, Nat.reduceAdd, Nat.reduceMul, Nat.reduceLT, Nat.reduceLeDiff, Int.reduceToNat]
              rw [if_pos c4, if_pos c4, hD4, hD5, q4, q5]
              exact ⟨(), by simp⟩
            · have e4 : decide ((4 : Int) < (wantT K : Int)) = false := decide_eq_false (by omega)
              refine vwp_seq_k fun Nm hNm => vreg tt_ok hF rfl ?_; simp only [e4, go_sem, Int.reduceEq, Int.reduceLT, Nat.reduceEqDiff, Nat.reduceAdd, Nat.reduceMul, Nat.reduceLT, Nat.reduceLeDiff, Int.reduceToNat]
              refine hNm _ (VWp.keep [0,1,5,44] [5,1000000,1000011,1000002] ?_); simp only [go_sem, Int.reduceEq, Int.reduceLT, Nat.reduceEqDiff, Nat.reduceAdd, Nat.reduceMul, Nat.reduceLT, Nat.reduceLeDiff, Int.reduceToNat]
              refine vif rfl ⟨(fun ht => by first | exact absurd ht (by decide) | (rw [e4] at ht; exact absurd ht (by decide))), fun _ => ?_⟩
              refine vwp_skip ?_
              simp only [go_sem, Int.reduceEq, Int.reduceLT, Nat.reduceEqDiff, Nat.reduceAdd, Nat.reduceMul, Nat.reduceLT, Nat.reduceLeDiff, Int.reduceToNat]
              rw [if_neg c4, if_neg c4]
              exact ⟨(), by simp⟩
          · intro _ _
            generalize (if 3 < wantT K then l.getD 3 [] else []) = SR at hu2
            generalize (if 4 < wantT K then numT (l.getD 4 []) else 0) = CY at hu2
            generalize (if 4 < wantT K then numT (l.getD 5 []) else 0) = HE at hu2
            have hsea := Search_spec c.us u (posT c.us A) (by omega) (pos_le _ _) hbd (by rw [hu2]; exact ⟨hab.1, by simp only; omega⟩) (fun k h hk => by have := pos_lt h hk; rw [hu2]; exact this) (fun k h hk => by have := pos_ge hso h hk; rw [hu2]; exact this)
              (c.us[posT c.us A]?.any fun x => decide (x.addr = A)) (by rw [hu2])
            have hva := validUnit_spec u
            have hct := Contains_spec c.us (sameT u) 95 (uniC u) 0 (by omega) (fun x _ => same_spec u x)
            have huC : uniC u = [.int .i64 A, .int .i64 K, .str SR, .int .i64 CY, .int .i64 HE] := by rw [hu2]; rfl
            rw [huC] at hsea hva hct
            obtain ⟨b3, q3⟩ : ∃ b, (c.us[posT c.us A]?.any fun x => decide (x.addr = A)) = b := ⟨_, rfl⟩
            obtain ⟨b4, q4⟩ : ∃ b, unitT u = b := ⟨_, rfl⟩
            obtain ⟨b5, q5⟩ : ∃ b, c.us.any (sameT u) = b := ⟨_, rfl⟩
            rw [q3] at hsea
            rw [q4] at hva
            rw [q5] at hct
            rw [decide_eq_true c1, decide_eq_true c2, q3, q4, q5, Bool.true_and, Bool.true_and] at hst
            obtain ⟨p, hp⟩ : ∃ p, posT c.us A = p := ⟨_, rfl⟩
            have hpl := pos_le c.us A
            rw [hp] at hsea hst hpl
            refine vwp_seq_k fun Nn hNn => vregdC (.at [61]) tt_ok mixed hF rfl (by kernel_rfl) (by kernel_rfl) ?_
            simp only [go_sem, Int.reduceEq, Int.reduceLT, Nat.reduceEqDiff, Nat.reduceAdd, Nat.reduceMul, Nat.reduceLT, Nat.reduceLeDiff, Int.reduceToNat]
            (first | refine .inr (bxl ?_) | refine .inr ⟨rfl, bxl ?_⟩); simp only [go_sem, Int.reduceEq, Int.reduceLT, Nat.reduceEqDiff, Nat.reduceAdd, Nat.reduceMul, Nat.reduceLT, Nat.reduceLeDiff, Int.reduceToNat]; refine look (hsea) rfl ?_; try simp only [go_sem, Int.reduceEq, Int.reduceLT, Nat.reduceEqDiff, Nat.reduceAdd, Nat.reduceMul, Nat.reduceLT, Nat.reduceLeDiff, Int.reduceToNat]
            refine hNn _ (VWp.keep [0,5,7,8] [5,1000000,1000011,1000002] ?_); simp only [go_sem, Int.reduceEq, Int.reduceLT, Nat.reduceEqDiff, Nat.reduceAdd, Nat.reduceMul, Nat.reduceLT, Nat.reduceLeDiff, Int.reduceToNat]
            refine vwp_seq_k fun No hNo => ?_
            rcases b3 with _ | _
            · rcases b4 with _ | _
              · have hst : R = (c, false) := hst
                refine vwp_seq_k fun Np hNp => vreg tt_ok hF rfl ?_; simp only [go_sem, Int.reduceEq, Int.reduceLT, Nat.reduceEqDiff, Nat.reduceAdd, Nat.reduceMul, Nat.reduceLT, Nat.reduceLeDiff, Int.reduceToNat]
                refine .inl ⟨_, hva, ?_⟩; try simp only [go_sem, Int.reduceEq, Int.reduceLT, Nat.reduceEqDiff, Nat.reduceAdd, Nat.reduceMul, Nat.reduceLT, Nat.reduceLeDiff, Int.reduceToNat]
                refine hNp _ (VWp.keep [0,5,7,77] [5,1000000,1000011,1000002] ?_); simp only [go_sem, Int.reduceEq, Int.reduceLT, Nat.reduceEqDiff, Nat.reduceAdd, Nat.reduceMul, Nat.reduceLT, Nat.reduceLeDiff, Int.reduceToNat]
                refine vif rfl ⟨fun _ => ?_, (fun hf => by exact absurd hf (by decide))⟩
                refine vwp_seq_k fun Nq hNq => vreg tt_ok hF rfl ?_; simp only [go_sem, Int.reduceEq, Int.reduceLT, Nat.reduceEqDiff, Nat.reduceAdd, Nat.reduceMul, Nat.reduceLT, Nat.reduceLeDiff, Int.reduceToNat]
                refine hNq _ (VWp.keep [4] [1000000,1000011,1000002] ?_); simp only [go_sem, Int.reduceEq, Int.reduceLT, Nat.reduceEqDiff, Nat.reduceAdd, Nat.reduceMul, Nat.reduceLT, Nat.reduceLeDiff, Int.reduceToNat]
                refine vwp_ret ?_
                simp only [hst, go_sem, Int.reduceEq, Int.reduceLT, Nat.reduceEqDiff, Nat.reduceAdd, Nat.reduceMul, Nat.reduceLT, Nat.reduceLeDiff, Int.reduceToNat]
                first | done | exact LeV.refl _ | exact ⟨LeV.refl _, by first | rfl | simp⟩
              · rcases b5 with _ | _
                · have hst : R = ({ us := c.us.take p ++ u :: c.us.drop p, store := c.store, ps := c.ps }, true) := hst
                  have hins := Insert_B (c.us.map uniC) [.int .i64 A, .int .i64 K, .str SR, .int .i64 CY, .int .i64 HE] p (by simpa using hpl) (by simp; omega)
                  have hrow : (c.us.take p ++ u :: c.us.drop p).map uniC = (c.us.map uniC).take p ++ [.int .i64 A, .int .i64 K, .str SR, .int .i64 CY, .int .i64 HE] :: (c.us.map uniC).drop p := by rw [List.map_append, List.map_cons, huC, List.map_take, List.map_drop]
                  have hrl : ((c.us.map uniC).take p ++ [.int .i64 A, .int .i64 K, .str SR, .int .i64 CY, .int .i64 HE] :: (c.us.map uniC).drop p : List (List V)).length = c.us.length + 1 := by rw [← hrow]; simp; omega
                  rw [List.length_map] at hins
                  refine vwp_seq_k fun Np hNp => vreg tt_ok hF rfl ?_; simp only [go_sem, Int.reduceEq, Int.reduceLT, Nat.reduceEqDiff, Nat.reduceAdd, Nat.reduceMul, Nat.reduceLT, Nat.reduceLeDiff, Int.reduceToNat]
                  refine .inl ⟨_, hva, ?_⟩; try simp only [go_sem, Int.reduceEq, Int.reduceLT, Nat.reduceEqDiff, Nat.reduceAdd, Nat.reduceMul, Nat.reduceLT, Nat.reduceLeDiff, Int.reduceToNat]
                  (first | refine .inr (bxl ?_) | refine .inr ⟨rfl, bxl ?_⟩); simp only [go_sem, Int.reduceEq, Int.reduceLT, Nat.reduceEqDiff, Nat.reduceAdd, Nat.reduceMul, Nat.reduceLT, Nat.reduceLeDiff, Int.reduceToNat]; refine look (hct) rfl ?_; try simp only [go_sem, Int.reduceEq, Int.reduceLT, Nat.reduceEqDiff, Nat.reduceAdd, Nat.reduceMul, Nat.reduceLT, Nat.reduceLeDiff, Int.reduceToNat]
                  refine hNp _ (VWp.keep [0,5,7,77] [5,1000000,1000011,1000002] ?_); simp only [go_sem, Int.reduceEq, Int.reduceLT, Nat.reduceEqDiff, Nat.reduceAdd, Nat.reduceMul, Nat.reduceLT, Nat.reduceLeDiff, Int.reduceToNat]
                  refine vif rfl ⟨(fun ht => by exact absurd ht (by decide)), fun _ => ?_⟩
                  refine vwp_skip (hNo _ ?_)
                  refine vwp_seq_k fun Nr hNr => vregdC (.at [86]) tt_ok mixed hF rfl (by kernel_rfl) (by kernel_rfl) ?_
                  simp only [go_sem, Int.reduceEq, Int.reduceLT, Nat.reduceEqDiff, Nat.reduceAdd, Nat.reduceMul, Nat.reduceLT, Nat.reduceLeDiff, Int.reduceToNat]
                  refine .inr ⟨rfl, bxo [(1000011, 1000011), (1000002, 85)] rfl ?_⟩
                  simp only [go_sem, Int.reduceEq, Int.reduceLT, Nat.reduceEqDiff, Nat.reduceAdd, Nat.reduceMul, Nat.reduceLT, Nat.reduceLeDiff, Int.reduceToNat]
                  refine ⟨_, _, hins, ?_⟩
                  try simp only [go_sem, Int.reduceEq, Int.reduceLT, Nat.reduceEqDiff, Nat.reduceAdd, Nat.reduceMul, Nat.reduceLT, Nat.reduceLeDiff, Int.reduceToNat]
                  refine hNr _ (VWp.keep [] [1000000, 1000011, 1000002] ?_)
                  simp only [hrl, Nat.le_refl, go_sem, Int.reduceEq, Int.reduceLT, Nat.reduceEqDiff, Nat.reduceAdd, Nat.reduceMul, Nat.reduceLT, Nat.reduceLeDiff, Int.reduceToNat]
                  refine vwp_seq_k fun Ns hNs => vreg tt_ok hF rfl ?_; simp only [go_sem, Int.reduceEq, Int.reduceLT, Nat.reduceEqDiff, Nat.reduceAdd, Nat.reduceMul, Nat.reduceLT, Nat.reduceLeDiff, Int.reduceToNat]
                  refine hNs _ (VWp.keep [4] [1000000, 1000011, 1000002] ?_)
                  simp only [hrl, Nat.le_refl, go_sem, Int.reduceEq, Int.reduceLT, Nat.reduceEqDiff, Nat.reduceAdd, Nat.reduceMul, Nat.reduceLT, Nat.reduceLeDiff, Int.reduceToNat]
                  refine vwp_ret ?_
                  rw [hst]
                  simp only [hrow, hrl, Nat.le_refl, go_sem, Int.reduceEq, Int.reduceLT, Nat.reduceEqDiff, Nat.reduceAdd, Nat.reduceMul, Nat.reduceLT, Nat.reduceLeDiff, Int.reduceToNat]
                  first | done | exact LeV.refl _ | exact ⟨LeV.refl _, by first | rfl | (simp; omega)⟩
                · have hst : R = (c, false) := hst
                  refine vwp_seq_k fun Np hNp => vreg tt_ok hF rfl ?_; simp only [go_sem, Int.reduceEq, Int.reduceLT, Nat.reduceEqDiff, Nat.reduceAdd, Nat.reduceMul, Nat.reduceLT, Nat.reduceLeDiff, Int.reduceToNat]
                  refine .inl ⟨_, hva, ?_⟩; try simp only [go_sem, Int.reduceEq, Int.reduceLT, Nat.reduceEqDiff, Nat.reduceAdd, Nat.reduceMul, Nat.reduceLT, Nat.reduceLeDiff, Int.reduceToNat]
                  (first | refine .inr (bxl ?_) | refine .inr ⟨rfl, bxl ?_⟩); simp only [go_sem, Int.reduceEq, Int.reduceLT, Nat.reduceEqDiff, Nat.reduceAdd, Nat.reduceMul, Nat.reduceLT, Nat.reduceLeDiff, Int.reduceToNat]; refine look (hct) rfl ?_; try simp only [go_sem, Int.reduceEq, Int.reduceLT, Nat.reduceEqDiff, Nat.reduceAdd, Nat.reduceMul, Nat.reduceLT, Nat.reduceLeDiff, Int.reduceToNat]
                  refine hNp _ (VWp.keep [0,5,7,77] [5,1000000,1000011,1000002] ?_); simp only [go_sem, Int.reduceEq, Int.reduceLT, Nat.reduceEqDiff, Nat.reduceAdd, Nat.reduceMul, Nat.reduceLT, Nat.reduceLeDiff, Int.reduceToNat]
                  refine vif rfl ⟨fun _ => ?_, (fun hf => by exact absurd hf (by decide))⟩
                  refine vwp_seq_k fun Nq hNq => vreg tt_ok hF rfl ?_; simp only [go_sem, Int.reduceEq, Int.reduceLT, Nat.reduceEqDiff, Nat.reduceAdd, Nat.reduceMul, Nat.reduceLT, Nat.reduceLeDiff, Int.reduceToNat]
                  refine hNq _ (VWp.keep [4] [1000000,1000011,1000002] ?_); simp only [go_sem, Int.reduceEq, Int.reduceLT, Nat.reduceEqDiff, Nat.reduceAdd, Nat.reduceMul, Nat.reduceLT, Nat.reduceLeDiff, Int.reduceToNat]
                  refine vwp_ret ?_
                  simp only [hst, go_sem, Int.reduceEq, Int.reduceLT, Nat.reduceEqDiff, Nat.reduceAdd, Nat.reduceMul, Nat.reduceLT, Nat.reduceLeDiff, Int.reduceToNat]
                  first | done | exact LeV.refl _ | exact ⟨LeV.refl _, by first | rfl | simp⟩
            · have hst : R = (c, false) := hst
              refine vwp_seq_k fun Np hNp => vreg tt_ok hF rfl ?_; simp only [go_sem, Int.reduceEq, Int.reduceLT, Nat.reduceEqDiff, Nat.reduceAdd, Nat.reduceMul, Nat.reduceLT, Nat.reduceLeDiff, Int.reduceToNat]
              refine hNp _ (VWp.keep [0,5,7,77] [5,1000000,1000011,1000002] ?_); simp only [go_sem, Int.reduceEq, Int.reduceLT, Nat.reduceEqDiff, Nat.reduceAdd, Nat.reduceMul, Nat.reduceLT, Nat.reduceLeDiff, Int.reduceToNat]
              refine vif rfl ⟨fun _ => ?_, (fun hf => by exact absurd hf (by decide))⟩
              refine vwp_seq_k fun Nq hNq => vreg tt_ok hF rfl ?_; simp only [go_sem, Int.reduceEq, Int.reduceLT, Nat.reduceEqDiff, Nat.reduceAdd, Nat.reduceMul, Nat.reduceLT, Nat.reduceLeDiff, Int.reduceToNat]
              refine hNq _ (VWp.keep [4] [1000000,1000011,1000002] ?_); simp only [go_sem, Int.reduceEq, Int.reduceLT, Nat.reduceEqDiff, Nat.reduceAdd, Nat.reduceMul, Nat.reduceLT, Nat.reduceLeDiff, Int.reduceToNat]
              refine vwp_ret ?_
              simp only [hst, go_sem, Int.reduceEq, Int.reduceLT, Nat.reduceEqDiff, Nat.reduceAdd, Nat.reduceMul, Nat.reduceLT, Nat.reduceLeDiff, Int.reduceToNat]
              first | done | exact LeV.refl _ | exact ⟨LeV.refl _, by first | rfl | simp⟩
end Go.Proofs.YtedbbinlcdgkoaaGreatDoor

/- Layer 19: the lines of a text (strings.Split). -/
namespace Go.Proofs.YtedbbinlcdgkoaaGreatDoor
open Go.RowKit
-- FUSE
-- LESS
set_option linter.unusedVariables false
set_option linter.unusedSimpArgs false
def splitAtC (d : UInt8) : Bs → List Bs
  | [] => [[]]
  | c :: t => if c = d then [] :: splitAtC d t else match splitAtC d t with
    | [] => [[c]]
    | p :: ps => (c :: p) :: ps
theorem splitAtC_ne (d : UInt8) : ∀ s, splitAtC d s ≠ []
  | [] => by simp [splitAtC]
  | c :: t => by
    unfold splitAtC
    split
    · simp
    · split <;> simp
theorem splitAtC_cons (d : UInt8) : ∀ (p t : Bs), (∀ c ∈ p, c ≠ d) → splitAtC d (p ++ d :: t) = p :: splitAtC d t
  | [], t, _ => by simp [splitAtC]
  | c :: p, t, h => by
    have ih := splitAtC_cons d p t (fun x hx => h x (List.mem_cons_of_mem _ hx))
    rw [List.cons_append, splitAtC, if_neg (h c List.mem_cons_self), ih]
theorem splitAtC_last (d : UInt8) : ∀ (p : Bs), (∀ c ∈ p, c ≠ d) → splitAtC d p = [p]
  | [], _ => rfl
  | c :: p, h => by
    have ih := splitAtC_last d p (fun x hx => h x (List.mem_cons_of_mem _ hx))
    rw [splitAtC, if_neg (h c List.mem_cons_self), ih]
theorem byteIdx_cases (c : UInt8) : ∀ l : List UInt8, (Lib.indexByte l c = -1 ∧ ∀ x ∈ l, x ≠ c) ∨ ∃ k : Nat, Lib.indexByte l c = k ∧ k < l.length ∧ l = l.take k ++ c :: l.drop (k + 1) ∧ ∀ x ∈ l.take k, x ≠ c
  | [] => .inl ⟨rfl, by simp⟩
  | b :: l => by
    unfold Lib.indexByte
    by_cases hb : b = c
    · subst hb
      rw [if_pos (by simp)]
      exact .inr ⟨0, rfl, by simp, by simp, by simp⟩
    · rw [if_neg (by simpa using hb)]
      rcases byteIdx_cases c l with ⟨h, h'⟩ | ⟨k, h, h1, h2, h3⟩
      · rw [h, if_pos (by simp)]
        exact .inl ⟨rfl, fun x hx => by rcases List.mem_cons.1 hx with rfl | hx; exact hb; exact h' x hx⟩
      · rw [h, if_neg (by simp)]
        refine .inr ⟨k + 1, by omega, by simp; omega, by simp only [List.take_succ_cons, List.drop_succ_cons, List.cons_append]; rw [← h2], fun x hx => ?_⟩
        rw [List.take_succ_cons] at hx
        rcases List.mem_cons.1 hx with rfl | hx
        · exact hb
        · exact h3 x hx

theorem split_at (c : UInt8) : ∀ (n : Nat) (l : Bs), l.length ≤ n → Lib.splitK [c] 0 (Lib.count l [c]) l = splitAtC c l
  | n, l, hn => by
    have hi := Lib.index_one l c
    rcases byteIdx_cases c l with ⟨h1, h2⟩ | ⟨k, h1, h2, h3, h4⟩
    · rw [Lib.count_miss (by rw [hi, h1]), splitAtC_last c l h2]; rfl
    · cases n with
      | zero => omega
      | succ n =>
        have ih := split_at c n (l.drop (k + 1)) (by rw [List.length_drop]; omega)
        rw [Lib.count_hit (by simp) (by rw [hi, h1]), Nat.add_comm]
        show (if Lib.index l [c] == -1 then _ else _) = _
        rw [hi, h1, if_neg (by simp)]
        simp only [Int.toNat_natCast, Nat.add_zero, List.length_cons, List.length_nil, Nat.zero_add]
        rw [ih]
        conv => rhs; rw [h3]
        rw [splitAtC_cons c _ _ h4]
theorem split_len (c : UInt8) : ∀ (n : Nat) (l : Bs), l.length ≤ n → (splitAtC c l).length = Lib.count l [c] + 1
  | n, l, hn => by
    have hi := Lib.index_one l c
    rcases byteIdx_cases c l with ⟨h1, h2⟩ | ⟨k, h1, h2, h3, h4⟩
    · rw [Lib.count_miss (by rw [hi, h1]), splitAtC_last c l h2]; rfl
    · cases n with
      | zero => omega
      | succ n =>
        have ih := split_len c n (l.drop (k + 1)) (by rw [List.length_drop]; omega)
        rw [Lib.count_hit (by simp) (by rw [hi, h1])]
        conv => lhs; rw [h3]
        rw [splitAtC_cons c _ _ h4, List.length_cons, ih]
        simp only [List.length_cons, List.length_nil, Nat.zero_add]
        omega
theorem Split_spec (s : Bs) (hs : s.length ≤ 1000000) : Spec Tryz.prog 43 [.str s, .str [10]] (.sl 1 ((splitAtC 10 s).map strR)) := by
  refine ⟨⟨_, Tryz.func43, rfl, by decide⟩, rfl, fun M w vs hM hG hv => ?_⟩
  obtain ⟨u, v, rfl, h1, h2⟩ := repL2 hv
  cases h1; cases h2
  obtain ⟨m, hm⟩ := hG.2.1
  refine (Tryz.strings_Split ⟨s.toArray⟩ ⟨[10].toArray⟩ m w (by show s.length < _; omega) hm (by decide)).mono ?_
  rintro e w' ⟨rfl, rfl⟩
  have hdat : (Lib.splitB ⟨[10].toArray⟩ 0 (Lib.countB ⟨s.toArray⟩ ⟨[10].toArray⟩) ⟨s.toArray⟩).map (·.data.toList) = splitAtC 10 s := by
    rw [Lib.splitB_data]
    exact split_at 10 s.length s (Nat.le_refl _)
  generalize hL : Lib.splitB ⟨[10].toArray⟩ 0 (Lib.countB ⟨s.toArray⟩ ⟨[10].toArray⟩) ⟨s.toArray⟩ = L at hdat
  have hlen : L.length = Lib.countB ⟨s.toArray⟩ ⟨[10].toArray⟩ + 1 := by
    rw [← List.length_map (f := fun x : ByteArray => x.data.toList), hdat]
    exact split_len 10 s.length s (Nat.le_refl _)
  have hll : (splitAtC 10 s).length = L.length := by rw [← hdat, List.length_map]
  have hlong : L.length ≤ s.length + 2 := by
    rw [hlen]
    have := Lib.count_le s [10]
    have e : Lib.countB ⟨s.toArray⟩ ⟨[10].toArray⟩ = Lib.count s [10] := rfl
    omega
  refine ⟨_, rfl, Chg.alloc _ _ _, some ⟨w.heap.size, 0, none⟩, L.length, by rw [hlen, List.length_map, hll, hlen], by rw [List.length_map, hll]; exact Nat.le_refl _, by unfold maxLen; omega, (fun e => by cases e), fun r hr => ?_, fun r hr => ?_, fun x hx => ?_⟩
  · obtain ⟨y, _, rfl⟩ := List.mem_map.1 hr; rfl
  · obtain ⟨y, _, rfl⟩ := List.mem_map.1 hr; rfl
  · injection hx with hx; subst hx
    refine ⟨fun _ => rfl, AtR.flat.2 (AtL.of_get fun i hi => ⟨fun q => by have := hM _ _ q; simp only at this; omega, ?_⟩)⟩
    have hfl : ((splitAtC 10 s).map strR).flatten = (splitAtC 10 s).map V.str := by
      generalize splitAtC 10 s = q
      induction q with
      | nil => rfl
      | cons a q ih => rw [List.map_cons, List.flatten_cons, ih]; rfl
    have hi2 : i < (splitAtC 10 s).length := by rw [hfl, List.length_map] at hi; exact hi
    refine ⟨.string ⟨((splitAtC 10 s)[i]).toArray⟩, ?_, rfl, ?_⟩
    · show (w.alloc _).cell? ⟨w.heap.size, 0 + i, none⟩ = _
      rw [cell_of_row _ _ _ _ _ _ (heap_alloc_new w _), List.getElem?_toArray, Nat.zero_add, List.getElem?_map]
      have hi3 : i < L.length := by omega
      rw [List.getElem?_eq_getElem hi3]
      have : (splitAtC 10 s)[i] = L[i].data.toList := by
        have h := congrArg (fun q : List Bs => q[i]?) hdat
        simp only [List.getElem?_map, List.getElem?_eq_getElem hi3, List.getElem?_eq_getElem hi2, Option.map_some, Option.some.injEq] at h
        exact h.symm
      rw [this]
      simp [bs_ofB]
    · simp only [hfl, List.getElem_map]
      rfl
end Go.Proofs.YtedbbinlcdgkoaaGreatDoor

/- Layer 19: what a description describes. -/
namespace Go.Proofs.YtedbbinlcdgkoaaGreatDoor
open Go.RowKit
-- FUSE
-- LESS
set_option linter.unusedVariables false
set_option linter.unusedSimpArgs false
def kStore : Bs := [83, 84, 79, 82, 69]
def kPart : Bs := [80, 65, 82, 84]
def kUnit : Bs := [85, 78, 73, 84]
def lineT (c : CfgT) (l : List Bs) : Option CfgT :=
  if l.headD [] = kStore then (if decide (2 ≤ l.length) && (storeT c l).2 then some (storeT c l).1 else none)
  else if l.headD [] = kPart then (if decide (3 ≤ l.length) && (lpartT c l).2 then some (lpartT c l).1 else none)
  else if l.headD [] = kUnit then (if decide (3 ≤ l.length) && (lunitT c l).2 then some (lunitT c l).1 else none)
  else none
def voidT (l : List Bs) : Bool := decide (l = []) || decide ((l.headD []).headD 0 = 42)
def stepT (c : CfgT) (line : Bs) : Option CfgT := if voidT (wordsT line) then some c else lineT c (wordsT line)
def zeroC : CfgT := ⟨[], 0, []⟩
def goT : CfgT → List Bs → Nat → CfgT × Nat
  | c, [], _ => (c, 0)
  | c, x :: xs, k => match stepT c x with
    | some c' => goT c' xs (k + 1)
    | none => (c, k + 1)
def parseT (t : Bs) : CfgT × Int × Int :=
  if 65536 < t.length then (zeroC, 0, 2) else if (goT zeroC (splitAtC 10 t) 0).2 = 0 then (if chkE (goT zeroC (splitAtC 10 t) 0).1 = 0 then ((goT zeroC (splitAtC 10 t) 0).1, 0, 0) else (zeroC, 0, 190)) else (zeroC, ((goT zeroC (splitAtC 10 t) 0).2 : Int), 190)
structure InvC (c : CfgT) : Prop where
  n : c.us.length ≤ 16
  s : sorT c.us
  b : ∀ x ∈ c.us, 0 ≤ x.addr ∧ x.addr ≤ 1023
  p : c.ps.length ≤ 4
theorem inv_zero : InvC zeroC := ⟨by simp [zeroC], List.Pairwise.nil, by simp [zeroC], by simp [zeroC]⟩
theorem inv_store {c : CfgT} (h : InvC c) (l : List Bs) : InvC (storeT c l).1 := by
  unfold storeT; split
  · exact ⟨h.n, h.s, h.b, h.p⟩
  · exact h
theorem inv_part {c : CfgT} (h : InvC c) (l : List Bs) : InvC (lpartT c l).1 := by
  unfold lpartT; split
  · rename_i q
    simp only [Bool.and_eq_true, Bool.not_eq_true', decide_eq_false_iff_not] at q
    exact ⟨h.n, h.s, h.b, by simp only [List.length_append, List.length_cons, List.length_nil]; omega⟩
  · exact h
theorem unit_addr {u : UniT} (h : unitT u = true) : 0 ≤ u.addr ∧ u.addr ≤ 1023 := by
  unfold unitT at h
  rw [Bool.and_eq_true] at h
  have h1 := h.1
  simp only [Bool.not_eq_true', Bool.or_eq_false_iff, decide_eq_false_iff_not] at h1
  omega
theorem inv_unit {c : CfgT} (h : InvC c) (l : List Bs) : InvC (lunitT c l).1 := by
  unfold lunitT
  generalize unitL l = u
  split
  · rename_i q
    simp only [Bool.and_eq_true, decide_eq_true_eq, Bool.not_eq_true'] at q
    obtain ⟨⟨⟨⟨q1, q2⟩, q3⟩, q4⟩, q5⟩ := q
    have hua := unit_addr q4
    obtain ⟨p, hp⟩ : ∃ p, posT c.us u.addr = p := ⟨_, rfl⟩
    have hpl := pos_le c.us u.addr
    rw [hp] at q3 hpl
    refine ⟨?_, ?_, ?_, h.p⟩
    · simp only [hp, List.length_append, List.length_cons, List.length_take, List.length_drop]; omega
    · simp only [hp]
      unfold sorT
      rw [List.pairwise_append]
      have h1 : ∀ x ∈ c.us.take p, x.addr < u.addr := fun x hx => by
        obtain ⟨j, hj, e⟩ := List.getElem_of_mem hx
        rw [List.length_take] at hj
        rw [List.getElem_take] at e
        have := pos_lt (us := c.us) (a := u.addr) (k := j) (by omega) (by omega)
        rw [e] at this; exact this
      have h2 : ∀ x ∈ c.us.drop p, u.addr < x.addr := fun x hx => by
        obtain ⟨j, hj, e⟩ := List.getElem_of_mem hx
        rw [List.length_drop] at hj
        rw [List.getElem_drop] at e
        have h3 := pos_ge h.s (a := u.addr) (k := p + j) (by omega) (by omega)
        rw [e] at h3
        rcases Nat.eq_zero_or_pos j with rfl | hj0
        · have hq : c.us[p]? = some x := by rw [List.getElem?_eq_getElem (by omega)]; exact congrArg some e
          rw [hq, Option.any_some] at q3
          have := of_decide_eq_false q3
          omega
        · have h4 := List.pairwise_iff_getElem.1 h.s p (p + j) (by omega) (by omega) (by omega)
          have h5 := pos_ge h.s (a := u.addr) (k := p) (by omega) (by omega)
          rw [e] at h4
          omega
      refine ⟨h.s.sublist (List.take_sublist _ _), List.Pairwise.cons h2 (h.s.sublist (List.drop_sublist _ _)), fun x hx y hy => ?_⟩
      rcases List.mem_cons.1 hy with rfl | hy
      · exact h1 x hx
      · have := h1 x hx; have := h2 y hy; omega
    · intro x hx
      simp only [hp] at hx
      rcases List.mem_append.1 hx with q | q
      · exact h.b x (List.mem_of_mem_take q)
      · rcases List.mem_cons.1 q with rfl | q
        · exact hua
        · exact h.b x (List.mem_of_mem_drop q)
  · exact h
theorem inv_line {c c' : CfgT} (h : InvC c) {l : List Bs} (hl : lineT c l = some c') : InvC c' := by
  unfold lineT at hl
  split at hl
  · split at hl
    · injection hl with e; rw [← e]; exact inv_store h l
    · cases hl
  · split at hl
    · split at hl
      · injection hl with e; rw [← e]; exact inv_part h l
      · cases hl
    · split at hl
      · split at hl
        · injection hl with e; rw [← e]; exact inv_unit h l
        · cases hl
      · cases hl
theorem inv_step {c c' : CfgT} (h : InvC c) {x : Bs} (hx : stepT c x = some c') : InvC c' := by
  unfold stepT at hx
  split at hx
  · injection hx with e; rw [← e]; exact h
  · exact inv_line h hx
theorem fld_props : ∀ (s cur : Bs), (∀ x ∈ fldG cur s, x ≠ [] ∧ x.length ≤ cur.length + s.length) ∧ (fldG cur s).length ≤ s.length + 1
  | [], cur => by
    unfold fldG
    split
    · simp
    · rename_i h; simp [h]
  | c :: s, cur => by
    unfold fldG
    split
    · obtain ⟨h1, h2⟩ := fld_props s []
      split
      · refine ⟨fun x hx => ?_, by simp only [List.length_cons]; omega⟩
        obtain ⟨a, b⟩ := h1 x hx
        exact ⟨a, by simp only [List.length_cons, List.length_nil] at b ⊢; omega⟩
      · rename_i hc
        refine ⟨fun x hx => ?_, by simp only [List.length_cons]; omega⟩
        rcases List.mem_cons.1 hx with rfl | hx
        · exact ⟨hc, by simp only [List.length_cons]; omega⟩
        · obtain ⟨a, b⟩ := h1 x hx
          exact ⟨a, by simp only [List.length_cons, List.length_nil] at b ⊢; omega⟩
    · obtain ⟨h1, h2⟩ := fld_props s (cur ++ [c])
      refine ⟨fun x hx => ?_, by simp only [List.length_cons]; omega⟩
      obtain ⟨a, b⟩ := h1 x hx
      exact ⟨a, by simp only [List.length_cons, List.length_append, List.length_nil] at b ⊢; omega⟩
theorem words_props (s : Bs) : (∀ x ∈ wordsT s, x ≠ [] ∧ x.length ≤ s.length) ∧ (wordsT s).length ≤ s.length + 1 := by
  obtain ⟨h1, h2⟩ := fld_props s []
  exact ⟨fun x hx => by obtain ⟨a, b⟩ := h1 x hx; exact ⟨a, by simpa using b⟩, h2⟩
theorem split_props (d : UInt8) : ∀ s : Bs, (∀ x ∈ splitAtC d s, x.length ≤ s.length) ∧ (splitAtC d s).length ≤ s.length + 1
  | [] => by simp [splitAtC]
  | c :: s => by
    obtain ⟨h1, h2⟩ := split_props d s
    unfold splitAtC
    split
    · refine ⟨fun x hx => ?_, by simp only [List.length_cons]; omega⟩
      rcases List.mem_cons.1 hx with rfl | hx
      · simp
      · have := h1 x hx; simp only [List.length_cons]; omega
    · split
      · rename_i e; exact absurd e (splitAtC_ne d s)
      · rename_i p ps e
        rw [e] at h1 h2
        refine ⟨fun x hx => ?_, by simp only [List.length_cons] at h2 ⊢; omega⟩
        rcases List.mem_cons.1 hx with rfl | hx
        · have := h1 p List.mem_cons_self; simp only [List.length_cons]; omega
        · have := h1 x (List.mem_cons_of_mem _ hx); simp only [List.length_cons]; omega
theorem sta_find (w : Bs) : findM staM w = if w = kStore then some (.agg [.int .i64 2, .fn (.func 66) []]) else if w = kPart then some (.agg [.int .i64 3, .fn (.func 67) []]) else if w = kUnit then some (.agg [.int .i64 3, .fn (.func 68) []]) else none := by
  unfold staM kStore kPart kUnit
  simp only [findM]
end Go.Proofs.YtedbbinlcdgkoaaGreatDoor
