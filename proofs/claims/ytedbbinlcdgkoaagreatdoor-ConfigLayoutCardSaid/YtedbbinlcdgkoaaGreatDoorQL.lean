import Derived.Outline
import Derived.Test.YtedbbinlcdgkoaaGreatDoorQJ

/- Layer 19: the search among the units. -/
namespace Go.Proofs.YtedbbinlcdgkoaaGreatDoor
open Go.RowKit
-- FUSE
-- LESS2
set_option linter.unusedVariables false
set_option linter.unusedSimpArgs false
set_option maxHeartbeats 4000000 in
set_option maxRecDepth 4000 in
theorem cmp_spec (a b : UniT) (ha : -1 ≤ a.addr ∧ a.addr ≤ 65536) (hb : -1 ≤ b.addr ∧ b.addr ≤ 65536) : Spec Tryz.prog 93 [.agg (uniC a), .agg (uniC b)] (.int .i64 (a.addr - b.addr)) := by
  unfold uniC
  have hw : IntKind.i64.wrap (a.addr - b.addr) = a.addr - b.addr := wrap_i64 (by omega) (by omega)
  refine spec_of tt_ok Tryz.func93 rfl (by decide) Tryz.ntmps93 (congrArg Array.toList Tryz.results93) (by simp) (by decide) rfl rfl (fun F hF => ?_)
  refine vwp_seq_k fun Na hNa => vreg tt_ok hF rfl ?_; simp only [go_sem, Int.reduceEq, Int.reduceLT, Int.reduceLE, Nat.reduceEqDiff, Nat.reduceAdd, Nat.reduceMul, Nat.reduceLT, Nat.reduceLeDiff, reduceCtorEq, Int.reduceToNat]
  refine hNa _ (VWp.keepR [2,3] [2,3] tt_ok hF rfl fun Nb hNb => ?_); simp only [hw, go_sem, Int.reduceEq, Int.reduceLT, Int.reduceLE, Nat.reduceEqDiff, Nat.reduceAdd, Nat.reduceMul, Nat.reduceLT, Nat.reduceLeDiff, reduceCtorEq, Int.reduceToNat]
  refine hNb _ (VWp.keep [4] [] ?_); simp only [go_sem, Int.reduceEq, Int.reduceLT, Int.reduceLE, Nat.reduceEqDiff, Nat.reduceAdd, Nat.reduceMul, Nat.reduceLT, Nat.reduceLeDiff, reduceCtorEq, Int.reduceToNat]
  refine vwp_ret ?_
  simp only [go_sem, Int.reduceEq, Int.reduceLT, Int.reduceLE, Nat.reduceEqDiff, Nat.reduceAdd, Nat.reduceMul, Nat.reduceLT, Nat.reduceLeDiff, reduceCtorEq, Int.reduceToNat]
  exact LeV.refl _
set_option maxHeartbeats 4000000 in
set_option maxRecDepth 4000 in
theorem Search_spec (us : List UniT) (u : UniT) (p : Nat) (hn : us.length ≤ 1000) (hp : p ≤ us.length) (hb : ∀ x ∈ us, -1 ≤ x.addr ∧ x.addr ≤ 65536) (hu : -1 ≤ u.addr ∧ u.addr ≤ 65536)
    (h1 : ∀ k (h : k < us.length), k < p → us[k].addr < u.addr) (h2 : ∀ k (h : k < us.length), p ≤ k → u.addr ≤ us[k].addr) (r : Bool) (hr : r = (us[p]?.any fun x => decide (x.addr = u.addr))) :
    Spec Tryz.prog 92 [.sl 5 (us.map uniC), .agg (uniC u), .fn (.func 93) []] (.tup [.int .i64 (p : Int), .bool r]) := by
  have huC : uniC u = [.int .i64 u.addr, .int .i64 u.kind, .str u.ser, .int .i64 u.cyl, .int .i64 u.head] := rfl
  rw [huC]
  refine spec_of tt_ok Tryz.func92 rfl (by decide) Tryz.ntmps92 (congrArg Array.toList Tryz.results92) (by simp) (by decide) rfl rfl (fun F hF => ?_)
  refine vwp_seq_k fun Na hNa => vreg tt_ok hF rfl ?_; simp only [go_sem, Int.reduceEq, Int.reduceLT, Int.reduceLE, Nat.reduceEqDiff, Nat.reduceAdd, Nat.reduceMul, Nat.reduceLT, Nat.reduceLeDiff, reduceCtorEq, Int.reduceToNat]
  refine hNa _ (VWp.keepR [0,2,4] [4] tt_ok hF rfl fun Nb hNb => ?_); simp only [go_sem, Int.reduceEq, Int.reduceLT, Int.reduceLE, Nat.reduceEqDiff, Nat.reduceAdd, Nat.reduceMul, Nat.reduceLT, Nat.reduceLeDiff, reduceCtorEq, Int.reduceToNat]
  refine hNb _ (VWp.keepR [0,2,4,8] [4] tt_ok hF rfl fun Nc hNc => ?_); simp only [go_sem, Int.reduceEq, Int.reduceLT, Int.reduceLE, Nat.reduceEqDiff, Nat.reduceAdd, Nat.reduceMul, Nat.reduceLT, Nat.reduceLeDiff, reduceCtorEq, Int.reduceToNat]
  refine hNc _ (VWp.keep [0,2,4,8,9,10] [4] ?_); simp only [go_sem, Int.reduceEq, Int.reduceLT, Int.reduceLE, Nat.reduceEqDiff, Nat.reduceAdd, Nat.reduceMul, Nat.reduceLT, Nat.reduceLeDiff, reduceCtorEq, Int.reduceToNat]
  refine vwp_seq_k fun Nd hNd => ?_
  refine vwp_block ?_
  refine vloop (fun z : Nat × Nat => [(0, .sl 5 (us.map uniC)), (2, .fn (.func 93) []), (4, .ptr 4 0), (8, .int .i64 (us.length : Int)), (9, .int .i64 (z.1 : Int)), (10, .int .i64 (z.2 : Int))])
    (fun _ => [(4, .box 58 [.int .i64 u.addr, .int .i64 u.kind, .str u.ser, .int .i64 u.cyl, .int .i64 u.head])]) (fun z => z.1 ≤ p ∧ p ≤ z.2 ∧ z.2 ≤ us.length) (fun z => z.2 - z.1) (0, us.length) ⟨Nat.zero_le _, hp, Nat.le_refl _⟩ (by simp only [go_sem, Int.reduceEq, Int.reduceLT, Int.reduceLE, Nat.reduceEqDiff, Nat.reduceAdd, Nat.reduceMul, Nat.reduceLT, Nat.reduceLeDiff, reduceCtorEq, Int.reduceToNat]; try rfl) ?_
  rintro ⟨i, j⟩ ⟨g1, g2, g3⟩
  simp only at g1 g2 g3
  refine vwp_seq_k fun Ne hNe => ?_
  refine vwp_seq_k fun Nf hNf => vreg tt_ok hF rfl ?_; simp only [go_sem, Int.reduceEq, Int.reduceLT, Int.reduceLE, Nat.reduceEqDiff, Nat.reduceAdd, Nat.reduceMul, Nat.reduceLT, Nat.reduceLeDiff, reduceCtorEq, Int.reduceToNat]
  refine hNf _ (VWp.keep [0,2,4,8,9,10,17] [4] ?_); simp only [go_sem, Int.reduceEq, Int.reduceLT, Int.reduceLE, Nat.reduceEqDiff, Nat.reduceAdd, Nat.reduceMul, Nat.reduceLT, Nat.reduceLeDiff, reduceCtorEq, Int.reduceToNat]
  refine vif rfl ⟨fun ht => ?_, fun hf => ?_⟩
  · have hij : i < j := by have := of_decide_eq_true ht; omega
    have hw1 : IntKind.i64.wrap ((i : Int) + (j : Int)) = ((i + j : Nat) : Int) := by rw [wrap_i64 (by omega) (by omega)]; omega
    have hw2 : IntKind.u64.wrap (((i + j : Nat) : Int)) = ((i + j : Nat) : Int) := by rw [wrap_u64]; omega
    have hw3 : (((i + j : Nat) : Int)).fdiv (2 ^ min 1 64) = (((i + j) / 2 : Nat) : Int) := by
      have : (2 : Int) ^ min 1 64 = 2 := by decide
      rw [this, Int.fdiv_eq_ediv_of_nonneg _ (by omega)]; omega
    obtain ⟨m, hm⟩ : ∃ m, (i + j) / 2 = m := ⟨_, rfl⟩
    have hmj : m < j := by omega
    have hmi : i ≤ m := by omega
    have hml : m < us.length := by omega
    have hw4 : IntKind.i64.wrap ((m : Nat) : Int) = (m : Int) := wrap_i64 (by omega) (by omega)
    have hget := uni_row hml
    have hcmp := cmp_spec us[m] u (hb _ (List.getElem_mem _)) hu
    unfold uniC at hcmp
    refine vwp_skip (hNe _ ?_)
    refine vwp_block ?_
    refine vwp_seq_k fun Ng hNg => vreg tt_ok hF rfl ?_; simp only [hw1, hw2, hw3, hw4, hm, go_sem, Int.reduceEq, Int.reduceLT, Int.reduceLE, Nat.reduceEqDiff, Nat.reduceAdd, Nat.reduceMul, Nat.reduceLT, Nat.reduceLeDiff, reduceCtorEq, Int.reduceToNat]
    refine hNg _ (VWp.keep [0,2,4,8,9,10,11] [4] ?_); simp only [go_sem, Int.reduceEq, Int.reduceLT, Int.reduceLE, Nat.reduceEqDiff, Nat.reduceAdd, Nat.reduceMul, Nat.reduceLT, Nat.reduceLeDiff, reduceCtorEq, Int.reduceToNat]
    refine vwp_seq_k fun Nh hNh => vregd tt_ok mixed hF rfl (by kernel_rfl) (by kernel_rfl) ?_; simp only [hget, hw4, Int.toNat_natCast, go_sem, Int.reduceEq, Int.reduceLT, Int.reduceLE, Nat.reduceEqDiff, Nat.reduceAdd, Nat.reduceMul, Nat.reduceLT, Nat.reduceLeDiff, reduceCtorEq, Int.reduceToNat]
    refine ⟨⟨by omega, by omega⟩, ?_⟩
    refine .inl ⟨_, hcmp, ?_⟩; try simp only [go_sem, Int.reduceEq, Int.reduceLT, Int.reduceLE, Nat.reduceEqDiff, Nat.reduceAdd, Nat.reduceMul, Nat.reduceLT, Nat.reduceLeDiff, reduceCtorEq, Int.reduceToNat]
    refine hNh _ (VWp.keep [0,2,4,8,9,10,11,31] [4] ?_); simp only [go_sem, Int.reduceEq, Int.reduceLT, Int.reduceLE, Nat.reduceEqDiff, Nat.reduceAdd, Nat.reduceMul, Nat.reduceLT, Nat.reduceLeDiff, reduceCtorEq, Int.reduceToNat]
    refine vif rfl ⟨fun ht2 => ?_, fun hf2 => ?_⟩
    · have hlt : us[m].addr < u.addr := by have := of_decide_eq_true ht2; omega
      have hmp : m < p := by
        rcases Nat.lt_or_ge m p with q | q
        · exact q
        · have := h2 m hml q; omega
      refine vreg tt_ok hF rfl ?_; simp only [go_sem, Int.reduceEq, Int.reduceLT, Int.reduceLE, Nat.reduceEqDiff, Nat.reduceAdd, Nat.reduceMul, Nat.reduceLT, Nat.reduceLeDiff, reduceCtorEq, Int.reduceToNat]
      rw [wrap_i64 (by omega) (by omega)]
      exact ⟨(m + 1, j), ⟨by simp only; omega, by simp only; omega, by simp only; omega⟩, by simp only; omega, by simp⟩
    · have hge : u.addr ≤ us[m].addr := by have := of_decide_eq_false hf2; omega
      have hpm : p ≤ m := by
        rcases Nat.lt_or_ge m p with q | q
        · have := h1 m hml q; omega
        · exact q
      refine vreg tt_ok hF rfl ?_; simp only [go_sem, Int.reduceEq, Int.reduceLT, Int.reduceLE, Nat.reduceEqDiff, Nat.reduceAdd, Nat.reduceMul, Nat.reduceLT, Nat.reduceLeDiff, reduceCtorEq, Int.reduceToNat]
      exact ⟨(i, m), ⟨by simp only; omega, by simp only; omega, by simp only; omega⟩, by simp only; omega, by simp⟩
  · have hij : i = p := by have := of_decide_eq_false hf; omega
    subst hij
    refine vwp_exit ?_
    simp only [go_sem, Int.reduceEq, Int.reduceLT, Int.reduceLE, Nat.reduceEqDiff, Nat.reduceAdd, Nat.reduceMul, Nat.reduceLT, Nat.reduceLeDiff, reduceCtorEq, Int.reduceToNat]
    refine hNd _ (VWp.keep [0,2,4,8,9] [4] ?_); simp only [go_sem, Int.reduceEq, Int.reduceLT, Int.reduceLE, Nat.reduceEqDiff, Nat.reduceAdd, Nat.reduceMul, Nat.reduceLT, Nat.reduceLeDiff, reduceCtorEq, Int.reduceToNat]
    by_cases hil : i < us.length
    · have e1 : decide ((i : Int) < (us.length : Int)) = true := decide_eq_true (by omega)
      have hget := uni_row hil
      have hcmp := cmp_spec us[i] u (hb _ (List.getElem_mem _)) hu
      unfold uniC at hcmp
      have hr2 : r = decide (us[i].addr - u.addr = 0) := by
        rw [hr, List.getElem?_eq_getElem hil, Option.any_some]
        exact decide_eq_decide.2 (by omega)
      refine vwp_seq_k fun Ni hNi => vregd tt_ok mixed hF rfl (by kernel_rfl) (by kernel_rfl) ?_; simp only [e1, hget, Int.toNat_natCast, go_sem, Int.reduceEq, Int.reduceLT, Int.reduceLE, Nat.reduceEqDiff, Nat.reduceAdd, Nat.reduceMul, Nat.reduceLT, Nat.reduceLeDiff, reduceCtorEq, Int.reduceToNat]
      refine ⟨by omega, ?_⟩
      refine .inl ⟨_, hcmp, ?_⟩; try simp only [go_sem, Int.reduceEq, Int.reduceLT, Int.reduceLE, Nat.reduceEqDiff, Nat.reduceAdd, Nat.reduceMul, Nat.reduceLT, Nat.reduceLeDiff, reduceCtorEq, Int.reduceToNat]
      refine hNi _ (VWp.keep [6,7] [] ?_); simp only [go_sem, Int.reduceEq, Int.reduceLT, Int.reduceLE, Nat.reduceEqDiff, Nat.reduceAdd, Nat.reduceMul, Nat.reduceLT, Nat.reduceLeDiff, reduceCtorEq, Int.reduceToNat]
      refine vwp_ret ?_
      simp only [go_sem, Int.reduceEq, Int.reduceLT, Int.reduceLE, Nat.reduceEqDiff, Nat.reduceAdd, Nat.reduceMul, Nat.reduceLT, Nat.reduceLeDiff, reduceCtorEq, Int.reduceToNat]
      rw [hr2]
      exact LeV.refl _
    · have e1 : decide ((i : Int) < (us.length : Int)) = false := decide_eq_false (by omega)
      have hr2 : r = false := by rw [hr, List.getElem?_eq_none (by omega)]; rfl
      refine vwp_seq_k fun Ni hNi => vregd tt_ok mixed hF rfl (by kernel_rfl) (by kernel_rfl) ?_; simp only [e1, go_sem, Int.reduceEq, Int.reduceLT, Int.reduceLE, Nat.reduceEqDiff, Nat.reduceAdd, Nat.reduceMul, Nat.reduceLT, Nat.reduceLeDiff, reduceCtorEq, Int.reduceToNat]
      refine hNi _ (VWp.keep [6,7] [] ?_); simp only [go_sem, Int.reduceEq, Int.reduceLT, Int.reduceLE, Nat.reduceEqDiff, Nat.reduceAdd, Nat.reduceMul, Nat.reduceLT, Nat.reduceLeDiff, reduceCtorEq, Int.reduceToNat]
      refine vwp_ret ?_
      simp only [go_sem, Int.reduceEq, Int.reduceLT, Int.reduceLE, Nat.reduceEqDiff, Nat.reduceAdd, Nat.reduceMul, Nat.reduceLT, Nat.reduceLeDiff, reduceCtorEq, Int.reduceToNat]
      rw [hr2]
      exact LeV.refl _
end Go.Proofs.YtedbbinlcdgkoaaGreatDoor

/- Layer 19: the first unit for which a condition holds. -/
namespace Go.Proofs.YtedbbinlcdgkoaaGreatDoor
open Go.RowKit
-- FUSE
-- LESS
set_option linter.unusedVariables false
set_option linter.unusedSimpArgs false
def firstT (us : List UniT) (p : UniT → Bool) : Int := match us.findIdx? p with
  | some k => (k : Int)
  | none => -1
theorem first_some {us : List UniT} {p : UniT → Bool} {k : Nat} (h : k < us.length) (hp : p us[k] = true) (hn : ∀ j (h : j < us.length), j < k → p us[j] = false) : firstT us p = (k : Int) := by
  have : us.findIdx? p = some k := by
    rw [List.findIdx?_eq_some_iff_getElem]
    exact ⟨h, hp, fun j hj => by rw [hn j (by omega) hj]; decide⟩
  unfold firstT; rw [this]
theorem first_none {us : List UniT} {p : UniT → Bool} (hn : ∀ j (h : j < us.length), p us[j] = false) : firstT us p = -1 := by
  have : us.findIdx? p = none := by
    rw [List.findIdx?_eq_none_iff]
    intro x hx
    obtain ⟨j, hj, rfl⟩ := List.getElem_of_mem hx
    exact hn j hj
  unfold firstT; rw [this]
theorem first_any (us : List UniT) (p : UniT → Bool) : decide (0 ≤ firstT us p) = us.any p := by
  unfold firstT
  cases h : us.findIdx? p with
  | none =>
    rw [List.findIdx?_eq_none_iff] at h
    have : us.any p = false := by rw [List.any_eq_false]; intro x hx; rw [h x hx]; decide
    rw [this]; rfl
  | some k =>
    rw [List.findIdx?_eq_some_iff_getElem] at h
    obtain ⟨h1, h2, _⟩ := h
    rw [List.any_eq_true.2 ⟨us[k], List.getElem_mem _, h2⟩]
    exact decide_eq_true (show (0 : Int) ≤ (k : Int) by omega)
set_option maxHeartbeats 4000000 in
set_option maxRecDepth 4000 in
theorem Index_spec (us : List UniT) (p : UniT → Bool) (f : FuncId) (row : List V) (off : Nat) (hn : us.length ≤ 1000000) (hp : ∀ x ∈ us, Spec Tryz.prog f [.agg (uniC x), .rp row off] (.bool (p x))) :
    Spec Tryz.prog 74 [.sl 5 (us.map uniC), .fn (.func f) [.rp row off]] (.int .i64 (firstT us p)) := by
  refine spec_of tt_ok Tryz.func74 rfl (by decide) Tryz.ntmps74 (congrArg Array.toList Tryz.results74) (by simp) (by decide) rfl rfl (fun F hF => ?_)
  refine vwp_seq_k fun Na hNa => vreg tt_ok hF rfl ?_; simp only [go_sem, Int.reduceEq, Int.reduceLT, Nat.reduceEqDiff, Nat.reduceAdd, Nat.reduceMul, Nat.reduceLT, Nat.reduceLeDiff, Int.reduceToNat]
  refine hNa _ (VWp.keep [0,1] [] ?_); simp only [go_sem, Int.reduceEq, Int.reduceLT, Nat.reduceEqDiff, Nat.reduceAdd, Nat.reduceMul, Nat.reduceLT, Nat.reduceLeDiff, Int.reduceToNat]
  refine vwp_seq_k fun Nb hNb => ?_
  refine vwp_seq_k fun Nc hNc => vreg tt_ok hF rfl ?_; simp only [go_sem, Int.reduceEq, Int.reduceLT, Nat.reduceEqDiff, Nat.reduceAdd, Nat.reduceMul, Nat.reduceLT, Nat.reduceLeDiff, Int.reduceToNat]
  refine hNc _ (VWp.keep [0,1,7,8] [] ?_); simp only [go_sem, Int.reduceEq, Int.reduceLT, Nat.reduceEqDiff, Nat.reduceAdd, Nat.reduceMul, Nat.reduceLT, Nat.reduceLeDiff, Int.reduceToNat]
  refine vwp_block ?_
  refine vloop (fun k : Nat => [(0, .sl 5 (us.map uniC)), (1, .fn (.func f) [.rp row off]), (7, .int .i64 (us.length : Int)), (8, .int .i64 (k : Int))]) (fun k => []) (fun k => k ≤ us.length ∧ ∀ j (h : j < us.length), j < k → p us[j] = false) (fun k => us.length - k) 0
    ⟨Nat.zero_le _, fun j _ h => absurd h (by omega)⟩ (by simp only [go_sem, Int.reduceEq, Int.reduceLT, Nat.reduceEqDiff, Nat.reduceAdd, Nat.reduceMul, Nat.reduceLT, Nat.reduceLeDiff, Int.reduceToNat]; try rfl) ?_
  rintro k ⟨hk, hno⟩
  refine vwp_seq_k fun Nd hNd => vreg tt_ok hF rfl ?_; simp only [go_sem, Int.reduceEq, Int.reduceLT, Nat.reduceEqDiff, Nat.reduceAdd, Nat.reduceMul, Nat.reduceLT, Nat.reduceLeDiff, Int.reduceToNat]
  refine hNd _ (VWp.keep [0,1,7,8,9] [] ?_); simp only [go_sem, Int.reduceEq, Int.reduceLT, Nat.reduceEqDiff, Nat.reduceAdd, Nat.reduceMul, Nat.reduceLT, Nat.reduceLeDiff, Int.reduceToNat]
  refine vwp_seq_k fun Ne hNe => ?_
  refine vif rfl ⟨fun ht => ?_, fun hf => ?_⟩
  · have hlt : k < us.length := by have := of_decide_eq_true ht; omega
    have hget := uni_row hlt
    have hpk := hp us[k] (List.getElem_mem _)
    unfold uniC at hpk
    refine vwp_skip (hNe _ ?_)
    refine vwp_seq_k fun Nf hNf => ?_
    refine vwp_block ?_
    refine vwp_seq_k fun Ng hNg => vreg tt_ok hF rfl ?_; simp only [go_sem, Int.reduceEq, Int.reduceLT, Nat.reduceEqDiff, Nat.reduceAdd, Nat.reduceMul, Nat.reduceLT, Nat.reduceLeDiff, Int.reduceToNat]
    refine hNg _ (VWp.keepR [0,1,5,7,8] [] tt_ok hF rfl fun Nh hNh => ?_); simp only [hget, Int.toNat_natCast, go_sem, Int.reduceEq, Int.reduceLT, Nat.reduceEqDiff, Nat.reduceAdd, Nat.reduceMul, Nat.reduceLT, Nat.reduceLeDiff, Int.reduceToNat]
    refine ⟨⟨by omega, by omega⟩, ?_⟩
    refine .inl ⟨_, hpk, ?_⟩; try simp only [go_sem, Int.reduceEq, Int.reduceLT, Nat.reduceEqDiff, Nat.reduceAdd, Nat.reduceMul, Nat.reduceLT, Nat.reduceLeDiff, Int.reduceToNat]
    refine hNh _ (VWp.keep [0,1,5,7,8,16] [] ?_); simp only [go_sem, Int.reduceEq, Int.reduceLT, Nat.reduceEqDiff, Nat.reduceAdd, Nat.reduceMul, Nat.reduceLT, Nat.reduceLeDiff, Int.reduceToNat]
    refine vif rfl ⟨fun ht => ?_, fun hf => ?_⟩
    · have hr := first_some hlt ht hno
      refine vwp_seq_k fun Ni hNi => vreg tt_ok hF rfl ?_; simp only [go_sem, Int.reduceEq, Int.reduceLT, Nat.reduceEqDiff, Nat.reduceAdd, Nat.reduceMul, Nat.reduceLT, Nat.reduceLeDiff, Int.reduceToNat]
      refine hNi _ (VWp.keep [4] [] ?_); simp only [go_sem, Int.reduceEq, Int.reduceLT, Nat.reduceEqDiff, Nat.reduceAdd, Nat.reduceMul, Nat.reduceLT, Nat.reduceLeDiff, Int.reduceToNat]
      refine vwp_ret ?_
      simp only [hr, go_sem, Int.reduceEq, Int.reduceLT, Nat.reduceEqDiff, Nat.reduceAdd, Nat.reduceMul, Nat.reduceLT, Nat.reduceLeDiff, Int.reduceToNat]
      exact LeV.refl _
    · refine vwp_skip (hNf _ ?_)
      refine vreg tt_ok hF rfl ?_; simp only [go_sem, Int.reduceEq, Int.reduceLT, Nat.reduceEqDiff, Nat.reduceAdd, Nat.reduceMul, Nat.reduceLT, Nat.reduceLeDiff, Int.reduceToNat]
      rw [wrap_i64 (by omega) (by omega)]
      refine ⟨k + 1, ⟨by omega, fun j h hj => ?_⟩, by omega, by simp⟩
      rcases Nat.lt_or_ge j k with q | q
      · exact hno j h q
      · have : j = k := by omega
        subst this; exact hf
  · have hke : k = us.length := by have := of_decide_eq_false hf; omega
    have hr := first_none (fun j h => hno j h (by omega))
    refine vwp_exit ?_
    simp only [go_sem, Int.reduceEq, Int.reduceLT, Nat.reduceEqDiff, Nat.reduceAdd, Nat.reduceMul, Nat.reduceLT, Nat.reduceLeDiff, Int.reduceToNat]
    refine hNb _ (VWp.keepR [] [] tt_ok hF rfl fun Nj hNj => ?_); simp only [go_sem, Int.reduceEq, Int.reduceLT, Nat.reduceEqDiff, Nat.reduceAdd, Nat.reduceMul, Nat.reduceLT, Nat.reduceLeDiff, Int.reduceToNat]
    refine hNj _ (VWp.keep [4] [] ?_); simp only [go_sem, Int.reduceEq, Int.reduceLT, Nat.reduceEqDiff, Nat.reduceAdd, Nat.reduceMul, Nat.reduceLT, Nat.reduceLeDiff, Int.reduceToNat]
    refine vwp_ret ?_
    simp only [hr, go_sem, Int.reduceEq, Int.reduceLT, Nat.reduceEqDiff, Nat.reduceAdd, Nat.reduceMul, Nat.reduceLT, Nat.reduceLeDiff, Int.reduceToNat]
    exact LeV.refl _
set_option maxHeartbeats 4000000 in
set_option maxRecDepth 4000 in
theorem Contains_spec (us : List UniT) (p : UniT → Bool) (f : FuncId) (row : List V) (off : Nat) (hn : us.length ≤ 1000000) (hp : ∀ x ∈ us, Spec Tryz.prog f [.agg (uniC x), .rp row off] (.bool (p x))) :
    Spec Tryz.prog 94 [.sl 5 (us.map uniC), .fn (.func f) [.rp row off]] (.bool (us.any p)) := by
  have hix := Index_spec us p f row off hn hp
  rw [← first_any]
  refine spec_of tt_ok Tryz.func94 rfl (by decide) Tryz.ntmps94 (congrArg Array.toList Tryz.results94) (by simp) (by decide) rfl rfl (fun F hF => ?_)
  refine vwp_seq_k fun Na hNa => vreg tt_ok hF rfl ?_; simp only [go_sem, Int.reduceEq, Int.reduceLT, Nat.reduceEqDiff, Nat.reduceAdd, Nat.reduceMul, Nat.reduceLT, Nat.reduceLeDiff, Int.reduceToNat]
  refine hNa _ (VWp.keepR [0,1] [] tt_ok hF rfl fun Nb hNb => ?_); simp only [go_sem, Int.reduceEq, Int.reduceLT, Nat.reduceEqDiff, Nat.reduceAdd, Nat.reduceMul, Nat.reduceLT, Nat.reduceLeDiff, Int.reduceToNat]
  refine .inl ⟨_, hix, ?_⟩; try simp only [go_sem, Int.reduceEq, Int.reduceLT, Nat.reduceEqDiff, Nat.reduceAdd, Nat.reduceMul, Nat.reduceLT, Nat.reduceLeDiff, Int.reduceToNat]
  refine hNb _ (VWp.keep [4] [] ?_); simp only [go_sem, Int.reduceEq, Int.reduceLT, Nat.reduceEqDiff, Nat.reduceAdd, Nat.reduceMul, Nat.reduceLT, Nat.reduceLeDiff, Int.reduceToNat]
  refine vwp_ret ?_
  simp only [go_sem, Int.reduceEq, Int.reduceLT, Nat.reduceEqDiff, Nat.reduceAdd, Nat.reduceMul, Nat.reduceLT, Nat.reduceLeDiff, Int.reduceToNat]
  exact LeV.refl _
def sameT (u x : UniT) : Bool := !decide (u.ser = []) && decide (x.ser = u.ser)
set_option maxHeartbeats 4000000 in
set_option maxRecDepth 4000 in
theorem same_spec (u x : UniT) : Spec Tryz.prog 95 [.agg (uniC x), .rp (uniC u) 0] (.bool (sameT u x)) := by
  unfold uniC sameT
  rcases h : decide (u.ser = []) with _ | _
  · refine spec_of tt_ok Tryz.func95 rfl (by decide) Tryz.ntmps95 (congrArg Array.toList Tryz.results95) (by simp) (by decide) rfl rfl (fun F hF => ?_)
    refine vwp_seq_k fun Na hNa => vreg tt_ok hF rfl ?_; simp only [go_sem, Int.reduceEq, Int.reduceLT, Nat.reduceEqDiff, Nat.reduceAdd, Nat.reduceMul, Nat.reduceLT, Nat.reduceLeDiff, Int.reduceToNat]
    refine hNa _ (VWp.keepR [1,2] [2] tt_ok hF rfl fun Nb hNb => ?_); simp only [h, go_sem, Int.reduceEq, Int.reduceLT, Nat.reduceEqDiff, Nat.reduceAdd, Nat.reduceMul, Nat.reduceLT, Nat.reduceLeDiff, Int.reduceToNat]
    refine hNb _ (VWp.keep [3] [] ?_); simp only [go_sem, Int.reduceEq, Int.reduceLT, Nat.reduceEqDiff, Nat.reduceAdd, Nat.reduceMul, Nat.reduceLT, Nat.reduceLeDiff, Int.reduceToNat]
    refine vwp_ret ?_
    simp only [go_sem, Int.reduceEq, Int.reduceLT, Nat.reduceEqDiff, Nat.reduceAdd, Nat.reduceMul, Nat.reduceLT, Nat.reduceLeDiff, Int.reduceToNat]
    exact LeV.refl _
  · refine spec_of tt_ok Tryz.func95 rfl (by decide) Tryz.ntmps95 (congrArg Array.toList Tryz.results95) (by simp) (by decide) rfl rfl (fun F hF => ?_)
    refine vwp_seq_k fun Na hNa => vreg tt_ok hF rfl ?_; simp only [go_sem, Int.reduceEq, Int.reduceLT, Nat.reduceEqDiff, Nat.reduceAdd, Nat.reduceMul, Nat.reduceLT, Nat.reduceLeDiff, Int.reduceToNat]
    refine hNa _ (VWp.keepR [1,2] [2] tt_ok hF rfl fun Nb hNb => ?_); simp only [h, go_sem, Int.reduceEq, Int.reduceLT, Nat.reduceEqDiff, Nat.reduceAdd, Nat.reduceMul, Nat.reduceLT, Nat.reduceLeDiff, Int.reduceToNat]
    refine hNb _ (VWp.keep [3] [] ?_); simp only [go_sem, Int.reduceEq, Int.reduceLT, Nat.reduceEqDiff, Nat.reduceAdd, Nat.reduceMul, Nat.reduceLT, Nat.reduceLeDiff, Int.reduceToNat]
    refine vwp_ret ?_
    simp only [go_sem, Int.reduceEq, Int.reduceLT, Nat.reduceEqDiff, Nat.reduceAdd, Nat.reduceMul, Nat.reduceLT, Nat.reduceLeDiff, Int.reduceToNat]
    exact LeV.refl _
end Go.Proofs.YtedbbinlcdgkoaaGreatDoor
