import Derived.Outline
import Derived.Test.YtnaljgmcpagbbaaGreatDoorJX
/- Layer 34: Scan. -/
-- SIMP: beq_self_eq_true, Bool.and_self, List.take_length
namespace Go.Proofs.YtnaljgmcpagbbaaGreatDoor
open Go.RowKit
set_option linter.unusedVariables false
set_option linter.unusedSimpArgs false
theorem dataJ_suf {k : Nat} : ∀ (t : List Jb) (i : Nat) {d t2 : List Jb} {i2 : Nat}, dataJ k t i = .inr (d, t2, i2) → ∃ pre, t = pre ++ t2
  | [], i, d, t2, i2, h => by simp only [dataJ, Sum.inr.injEq, Prod.mk.injEq] at h; exact ⟨[], h.2.1⟩
  | l :: t, i, d, t2, i2, h => by
    rw [dataJ_cons] at h
    split at h
    · simp only [Sum.inr.injEq, Prod.mk.injEq] at h; exact ⟨[], h.2.1⟩
    · split at h
      · simp only [Sum.inr.injEq, Prod.mk.injEq] at h; exact ⟨[], h.2.1⟩
      · split at h
        · cases h
        · split at h
          · simp only [Sum.inr.injEq, Prod.mk.injEq] at h; exact ⟨[l], by rw [← h.2.1]; rfl⟩
          · split at h
            · cases h
            · rename_i d' t2' i2' hr
              simp only [Sum.inr.injEq, Prod.mk.injEq] at h
              obtain ⟨pre, hp⟩ := dataJ_suf t (i + 1) hr
              exact ⟨l :: pre, by rw [hp, h.2.1]; rfl⟩
theorem deckJ_cons (n k : Nat) (l : Jb) (t : List Jb) (i : Nat) : deckJ n (k + 1) (l :: t) i = if !cardJ l then .inl (i + 1)
    else if skipJ l then deckJ n k t (i + 1)
    else if !begJ l [47, 47] then .inl (i + 1)
    else match stmtJ n l t i with
      | .inl b => .inl b
      | .inr (s, t2, i2) => match dataJ (kindJ s) t2 i2 with
        | .inl b => .inl b
        | .inr (d, t3, i3) => match deckJ n k t3 i3 with
          | .inl b => .inl b
          | .inr ss => .inr ({ s with data := d } :: ss) := rfl
def joinD (ss : List StmJ) (R : Nat ⊕ List StmJ) : Nat ⊕ List StmJ := match R with
  | .inl b => .inl b
  | .inr s2 => .inr (ss ++ s2)
def outD (R : Nat ⊕ List StmJ) : V := match R with | .inl b => .tup [stmsV [], .int .i64 (b : Int), .int .i64 340] | .inr ss => .tup [stmsV ss, .int .i64 0, .int .i64 0]
def scanV (L : List Jb) : V := .tup [stmsV (scanJ L).1, .int .i64 (scanJ L).2.1, .int .i64 (scanJ L).2.2]
set_option maxHeartbeats 16000000 in
set_option maxRecDepth 4000 in
theorem Scan_spec (L : List Jb) (hL : L.length ≤ 1000000000) (hsz : sizeJ L ≤ 1000000000000) : Spec Tryz.prog 19 [strsV L] (scanV L) := by
  refine spec_of tt_ok Tryz.func19 rfl (by decide) Tryz.ntmps19 (congrArg Array.toList Tryz.results19) (by simp) (by decide) rfl rfl (fun F hF => ?_)
  refine vwp_seq_k fun Na hNa => vreg tt_ok hF rfl ?_; simp only [go_sem, Int.reduceEq, Int.reduceNe, Int.reduceLT, Int.reduceLE, Nat.reduceEqDiff, Nat.reduceAdd, Nat.reduceMul, Nat.reduceLT, Nat.reduceLeDiff, Nat.reduceSub, reduceCtorEq, reduceIte, Int.reduceToNat, beq_self_eq_true, Bool.and_self, List.take_length]
  refine hNa _ (VWp.keepR [0] [] tt_ok hF rfl fun Nb hNb => ?_); simp only [go_sem, Int.reduceEq, Int.reduceNe, Int.reduceLT, Int.reduceLE, Nat.reduceEqDiff, Nat.reduceAdd, Nat.reduceMul, Nat.reduceLT, Nat.reduceLeDiff, Nat.reduceSub, reduceCtorEq, reduceIte, Int.reduceToNat, beq_self_eq_true, Bool.and_self, List.take_length]
  refine hNb _ (VWp.keep [0,5] [] ?_); simp only [go_sem, Int.reduceEq, Int.reduceNe, Int.reduceLT, Int.reduceLE, Nat.reduceEqDiff, Nat.reduceAdd, Nat.reduceMul, Nat.reduceLT, Nat.reduceLeDiff, Nat.reduceSub, reduceCtorEq, reduceIte, Int.reduceToNat, beq_self_eq_true, Bool.and_self, List.take_length]
  refine vwp_seq_k fun Nc hNc => ?_
  refine vwp_seq_k fun Nd hNd => vreg tt_ok hF rfl ?_; simp only [go_sem, Int.reduceEq, Int.reduceNe, Int.reduceLT, Int.reduceLE, Nat.reduceEqDiff, Nat.reduceAdd, Nat.reduceMul, Nat.reduceLT, Nat.reduceLeDiff, Nat.reduceSub, reduceCtorEq, reduceIte, Int.reduceToNat, beq_self_eq_true, Bool.and_self, List.take_length]
  refine hNd _ (VWp.keep [0,5,13,14,15] [] ?_); simp only [go_sem, Int.reduceEq, Int.reduceNe, Int.reduceLT, Int.reduceLE, Nat.reduceEqDiff, Nat.reduceAdd, Nat.reduceMul, Nat.reduceLT, Nat.reduceLeDiff, Nat.reduceSub, reduceCtorEq, reduceIte, Int.reduceToNat, beq_self_eq_true, Bool.and_self, List.take_length]
  refine vwp_block (vloop (fun z : Nat × Nat => [(0, strsV L), (5, .int .i64 (z.2 : Int)), (13, strsV L), (14, .int .i64 (L.length : Int)), (15, .int .i64 (z.1 : Int))]) (fun _ => []) (fun z => z.1 ≤ L.length ∧ z.2 + sizeJ (L.drop z.1) = sizeJ L) (fun z => L.length - z.1) (0, 0) ⟨Nat.zero_le _, by simp⟩ (by simp only [go_sem, Int.reduceEq, Int.reduceNe, Int.reduceLT, Int.reduceLE, Nat.reduceEqDiff, Nat.reduceAdd, Nat.reduceMul, Nat.reduceLT, Nat.reduceLeDiff, Nat.reduceSub, reduceCtorEq, reduceIte, Int.reduceToNat, beq_self_eq_true, Bool.and_self, List.take_length, List.length_map]) ?_)
  rintro ⟨m, sz⟩ ⟨m1, m2⟩
  have m1 : m ≤ L.length := m1
  have m2 : sz + sizeJ (L.drop m) = sizeJ L := m2
  try dsimp only
  refine vwp_seq_k fun Ne hNe => vreg tt_ok hF rfl ?_; simp only [go_sem, Int.reduceEq, Int.reduceNe, Int.reduceLT, Int.reduceLE, Nat.reduceEqDiff, Nat.reduceAdd, Nat.reduceMul, Nat.reduceLT, Nat.reduceLeDiff, Nat.reduceSub, reduceCtorEq, reduceIte, Int.reduceToNat, beq_self_eq_true, Bool.and_self, List.take_length]
  refine hNe _ (VWp.keep [0,5,13,14,15,16] [] ?_); simp only [go_sem, Int.reduceEq, Int.reduceNe, Int.reduceLT, Int.reduceLE, Nat.reduceEqDiff, Nat.reduceAdd, Nat.reduceMul, Nat.reduceLT, Nat.reduceLeDiff, Nat.reduceSub, reduceCtorEq, reduceIte, Int.reduceToNat, beq_self_eq_true, Bool.and_self, List.take_length]
  refine vwp_seq_k fun Nf hNf => ?_
  refine vif rfl ⟨fun ht => ?_, fun hf => ?_⟩
  · have hlt : m < L.length := by have := of_decide_eq_true ht; omega
    obtain ⟨l, hg⟩ : ∃ l, L[m]? = some l := ⟨_, List.getElem?_eq_getElem hlt⟩
    have hrow : (L.map fun w => [V.str w]).getD m [] = [.str l] := by simp [hg]
    have hp : (0 : Int) ≤ (m : Int) ∧ (m : Int) < (L.length : Int) := ⟨by omega, by omega⟩
    rw [drop_cons L m hg, size_cons] at m2
    refine vwp_skip (hNf _ ?_)
    refine vwp_seq_k fun Ng hNg => ?_
    refine vwp_block ?_
    refine vwp_seq_k fun Nh hNh => vreg tt_ok hF rfl ?_; simp only [go_sem, Int.reduceEq, Int.reduceNe, Int.reduceLT, Int.reduceLE, Nat.reduceEqDiff, Nat.reduceAdd, Nat.reduceMul, Nat.reduceLT, Nat.reduceLeDiff, Nat.reduceSub, reduceCtorEq, reduceIte, Int.reduceToNat, beq_self_eq_true, Bool.and_self, List.take_length, List.length_map, hp, hrow]
    refine hNh _ (VWp.keep [0,5,7,13,14,15] [] ?_); simp only [go_sem, Int.reduceEq, Int.reduceNe, Int.reduceLT, Int.reduceLE, Nat.reduceEqDiff, Nat.reduceAdd, Nat.reduceMul, Nat.reduceLT, Nat.reduceLeDiff, Nat.reduceSub, reduceCtorEq, reduceIte, Int.reduceToNat, beq_self_eq_true, Bool.and_self, List.take_length]
    have hw : IntKind.i64.wrap ((sz : Int) + (l.length : Int)) = ((sz + l.length : Nat) : Int) := by rw [wrap_i64 (by omega) (by omega)]; rfl
    refine vreg tt_ok hF rfl ?_; simp only [go_sem, Int.reduceEq, Int.reduceNe, Int.reduceLT, Int.reduceLE, Nat.reduceEqDiff, Nat.reduceAdd, Nat.reduceMul, Nat.reduceLT, Nat.reduceLeDiff, Nat.reduceSub, reduceCtorEq, reduceIte, Int.reduceToNat, beq_self_eq_true, Bool.and_self, List.take_length, hw]
    refine hNg _ (VWp.keep [0,5,13,14,15] [] ?_); simp only [go_sem, Int.reduceEq, Int.reduceNe, Int.reduceLT, Int.reduceLE, Nat.reduceEqDiff, Nat.reduceAdd, Nat.reduceMul, Nat.reduceLT, Nat.reduceLeDiff, Nat.reduceSub, reduceCtorEq, reduceIte, Int.reduceToNat, beq_self_eq_true, Bool.and_self, List.take_length]
    refine vreg tt_ok hF rfl ?_; simp only [go_sem, Int.reduceEq, Int.reduceNe, Int.reduceLT, Int.reduceLE, Nat.reduceEqDiff, Nat.reduceAdd, Nat.reduceMul, Nat.reduceLT, Nat.reduceLeDiff, Nat.reduceSub, reduceCtorEq, reduceIte, Int.reduceToNat, beq_self_eq_true, Bool.and_self, List.take_length]
    rw [wrap_i64 (by omega) (by omega)]
    exact ⟨(m + 1, sz + l.length), ⟨by simp only; omega, by simp only; omega⟩, by simp only; omega, by simp⟩
  · have hm : m = L.length := by have := of_decide_eq_false hf; omega
    subst hm
    rw [List.drop_length] at m2
    have m2 : sz = sizeJ L := m2
    subst m2
    clear m1
    refine vwp_exit ?_
    simp only [go_sem, Int.reduceEq, Int.reduceNe, Int.reduceLT, Int.reduceLE, Nat.reduceEqDiff, Nat.reduceAdd, Nat.reduceMul, Nat.reduceLT, Nat.reduceLeDiff, Nat.reduceSub, reduceCtorEq, reduceIte, Int.reduceToNat, beq_self_eq_true, Bool.and_self, List.take_length]
    refine hNc _ (VWp.keep [0,5] [] ?_); simp only [go_sem, Int.reduceEq, Int.reduceNe, Int.reduceLT, Int.reduceLE, Nat.reduceEqDiff, Nat.reduceAdd, Nat.reduceMul, Nat.reduceLT, Nat.reduceLeDiff, Nat.reduceSub, reduceCtorEq, reduceIte, Int.reduceToNat, beq_self_eq_true, Bool.and_self, List.take_length]
    refine vwp_seq_k fun Ni hNi => ?_
    by_cases hlong : 65536 < sizeJ L
    · have hr : scanV L = .tup [stmsV [], .int .i64 0, .int .i64 2] := by unfold scanV; rw [scanJ_long hlong]
      have e1 : decide ((65536 : Int) < (sizeJ L : Int)) = true := decide_eq_true (by omega)
      refine vwp_seq_k fun Nj hNj => vreg tt_ok hF rfl ?_; simp only [go_sem, Int.reduceEq, Int.reduceNe, Int.reduceLT, Int.reduceLE, Nat.reduceEqDiff, Nat.reduceAdd, Nat.reduceMul, Nat.reduceLT, Nat.reduceLeDiff, Nat.reduceSub, reduceCtorEq, reduceIte, Int.reduceToNat, beq_self_eq_true, Bool.and_self, List.take_length, e1]
      refine hNj _ (VWp.keep [0,25] [] ?_); simp only [go_sem, Int.reduceEq, Int.reduceNe, Int.reduceLT, Int.reduceLE, Nat.reduceEqDiff, Nat.reduceAdd, Nat.reduceMul, Nat.reduceLT, Nat.reduceLeDiff, Nat.reduceSub, reduceCtorEq, reduceIte, Int.reduceToNat, beq_self_eq_true, Bool.and_self, List.take_length]
      refine vif rfl ⟨fun ht => ?_, fun hf => (by cases hf)⟩
      refine vwp_seq_k fun Nk hNk => vreg tt_ok hF rfl ?_; simp only [go_sem, Int.reduceEq, Int.reduceNe, Int.reduceLT, Int.reduceLE, Nat.reduceEqDiff, Nat.reduceAdd, Nat.reduceMul, Nat.reduceLT, Nat.reduceLeDiff, Nat.reduceSub, reduceCtorEq, reduceIte, Int.reduceToNat, beq_self_eq_true, Bool.and_self, List.take_length]
      refine hNk _ (VWp.keep [2,3,4] [] ?_); simp only [go_sem, Int.reduceEq, Int.reduceNe, Int.reduceLT, Int.reduceLE, Nat.reduceEqDiff, Nat.reduceAdd, Nat.reduceMul, Nat.reduceLT, Nat.reduceLeDiff, Nat.reduceSub, reduceCtorEq, reduceIte, Int.reduceToNat, beq_self_eq_true, Bool.and_self, List.take_length]
      refine vwp_ret ?_
      simp only [go_sem, Int.reduceEq, Int.reduceNe, Int.reduceLT, Int.reduceLE, Nat.reduceEqDiff, Nat.reduceAdd, Nat.reduceMul, Nat.reduceLT, Nat.reduceLeDiff, Nat.reduceSub, reduceCtorEq, reduceIte, Int.reduceToNat, beq_self_eq_true, Bool.and_self, List.take_length]
      rw [hr]
      exact LeV.tup ⟨LeV.nil 5, LeV.refl _, LeV.refl _, trivial⟩
    · have hmem : ∀ x ∈ L, x.length ≤ 1000000 := fun x hx => by have := mem_size hx; omega
      obtain ⟨R, hR⟩ : ∃ R, deckJ L.length L.length L 0 = R := ⟨_, rfl⟩
      have hr : scanV L = outD R := by
        unfold scanV scanJ outD
        rw [if_neg hlong, ← hR]
        cases deckJ L.length L.length L 0 <;> rfl
      have e1 : decide ((65536 : Int) < (sizeJ L : Int)) = false := decide_eq_false (by omega)
      refine vwp_seq_k fun Nj hNj => vreg tt_ok hF rfl ?_; simp only [go_sem, Int.reduceEq, Int.reduceNe, Int.reduceLT, Int.reduceLE, Nat.reduceEqDiff, Nat.reduceAdd, Nat.reduceMul, Nat.reduceLT, Nat.reduceLeDiff, Nat.reduceSub, reduceCtorEq, reduceIte, Int.reduceToNat, beq_self_eq_true, Bool.and_self, List.take_length, e1]
      refine hNj _ (VWp.keep [0,25] [] ?_); simp only [go_sem, Int.reduceEq, Int.reduceNe, Int.reduceLT, Int.reduceLE, Nat.reduceEqDiff, Nat.reduceAdd, Nat.reduceMul, Nat.reduceLT, Nat.reduceLeDiff, Nat.reduceSub, reduceCtorEq, reduceIte, Int.reduceToNat, beq_self_eq_true, Bool.and_self, List.take_length]
      refine vif rfl ⟨fun ht => (by cases ht), fun hf => ?_⟩
      refine vwp_skip (hNi _ ?_)
      refine vwp_seq_k fun Nl hNl => vreg tt_ok hF rfl ?_; simp only [go_sem, Int.reduceEq, Int.reduceNe, Int.reduceLT, Int.reduceLE, Nat.reduceEqDiff, Nat.reduceAdd, Nat.reduceMul, Nat.reduceLT, Nat.reduceLeDiff, Nat.reduceSub, reduceCtorEq, reduceIte, Int.reduceToNat, beq_self_eq_true, Bool.and_self, List.take_length]
      refine hNl _ (VWp.keepR [0,8] [28] tt_ok hF rfl fun Nm hNm => ?_); simp only [go_sem, Int.reduceEq, Int.reduceNe, Int.reduceLT, Int.reduceLE, Nat.reduceEqDiff, Nat.reduceAdd, Nat.reduceMul, Nat.reduceLT, Nat.reduceLeDiff, Nat.reduceSub, reduceCtorEq, reduceIte, Int.reduceToNat, beq_self_eq_true, Bool.and_self, List.take_length]
      refine hNm _ (VWp.keep [0,8,9] [28] ?_); simp only [go_sem, Int.reduceEq, Int.reduceNe, Int.reduceLT, Int.reduceLE, Nat.reduceEqDiff, Nat.reduceAdd, Nat.reduceMul, Nat.reduceLT, Nat.reduceLeDiff, Nat.reduceSub, reduceCtorEq, reduceIte, Int.reduceToNat, beq_self_eq_true, Bool.and_self, List.take_length]
      refine vwp_seq_k fun Nn hNn => ?_
      refine VWp.adopt 83 5 34 (x := 9) rfl rfl (by decide) ?_ (closed_of (by simp only [go_sem, Int.reduceEq, Int.reduceNe, Int.reduceLT, Int.reduceLE, Nat.reduceEqDiff, Nat.reduceAdd, Nat.reduceMul, Nat.reduceLT, Nat.reduceLeDiff, Nat.reduceSub, reduceCtorEq, reduceIte, Int.reduceToNat, beq_self_eq_true, Bool.and_self, List.take_length]) (by simp only [go_sem, Int.reduceEq, Int.reduceNe, Int.reduceLT, Int.reduceLE, Nat.reduceEqDiff, Nat.reduceAdd, Nat.reduceMul, Nat.reduceLT, Nat.reduceLeDiff, Nat.reduceSub, reduceCtorEq, reduceIte, Int.reduceToNat, beq_self_eq_true, Bool.and_self, List.take_length]))
      refine VWp.keep [0,8,9] [28,83] ?_; simp only [go_sem, Int.reduceEq, Int.reduceNe, Int.reduceLT, Int.reduceLE, Nat.reduceEqDiff, Nat.reduceAdd, Nat.reduceMul, Nat.reduceLT, Nat.reduceLeDiff, Nat.reduceSub, reduceCtorEq, reduceIte, Int.reduceToNat, beq_self_eq_true, Bool.and_self, List.take_length]
      refine vwp_block (vloop (fun z : Nat × List StmJ => [(0, strsV L), (8, .ptr 28 0), (9, .own 83 z.2.length)]) (fun z => [(28, .box 54 [strsV L, .int .i64 (z.1 : Int)]), (83, .arr 5 34 (z.2.map stmC))])
        (fun z => z.1 ≤ L.length ∧ z.2.length ≤ z.1 ∧ ∃ k, (L.drop z.1).length ≤ k ∧ joinD z.2 (deckJ L.length k (L.drop z.1) z.1) = R) (fun z => L.length - z.1) (0, []) ⟨Nat.zero_le _, Nat.le_refl _, L.length, by simp, by rw [List.drop_zero, hR]; cases R <;> rfl⟩ (by simp only [go_sem, Int.reduceEq, Int.reduceNe, Int.reduceLT, Int.reduceLE, Nat.reduceEqDiff, Nat.reduceAdd, Nat.reduceMul, Nat.reduceLT, Nat.reduceLeDiff, Nat.reduceSub, reduceCtorEq, reduceIte, Int.reduceToNat, beq_self_eq_true, Bool.and_self, List.take_length]) ?_)
      rintro ⟨j, ss⟩ ⟨hj, hss, k, hk, j1⟩
      have hj : j ≤ L.length := hj
      have hss : ss.length ≤ j := hss
      have hk : (L.drop j).length ≤ k := hk
      have j1 : joinD ss (deckJ L.length k (L.drop j) j) = R := j1
      try dsimp only
      refine vwp_seq_k fun No hNo => ?_
      cases hg : L[j]? with
      | none =>
        have hge : L.length ≤ j := List.getElem?_eq_none_iff.1 hg
        obtain rfl : j = L.length := by omega
        rw [List.drop_length] at j1
        have j1 : R = .inr ss := by
          rw [← j1]
          cases k <;> simp [deckJ, joinD]
        subst j1
        have hr : scanV L = .tup [stmsV ss, .int .i64 0, .int .i64 0] := hr
        have e2 : decide ((L.length : Int) < (L.length : Int)) = false := decide_eq_false (by omega)
        refine vwp_seq_k fun Np hNp => vreg tt_ok hF rfl ?_; simp only [go_sem, Int.reduceEq, Int.reduceNe, Int.reduceLT, Int.reduceLE, Nat.reduceEqDiff, Nat.reduceAdd, Nat.reduceMul, Nat.reduceLT, Nat.reduceLeDiff, Nat.reduceSub, reduceCtorEq, reduceIte, Int.reduceToNat, beq_self_eq_true, Bool.and_self, List.take_length, List.length_map, e2]
        refine hNp _ (VWp.keep [0,8,9,35] [28,83] ?_); simp only [go_sem, Int.reduceEq, Int.reduceNe, Int.reduceLT, Int.reduceLE, Nat.reduceEqDiff, Nat.reduceAdd, Nat.reduceMul, Nat.reduceLT, Nat.reduceLeDiff, Nat.reduceSub, reduceCtorEq, reduceIte, Int.reduceToNat, beq_self_eq_true, Bool.and_self, List.take_length]
        refine vif rfl ⟨fun ht => (by cases ht), fun hf => ?_⟩
        refine vwp_exit ?_
        simp only [go_sem, Int.reduceEq, Int.reduceNe, Int.reduceLT, Int.reduceLE, Nat.reduceEqDiff, Nat.reduceAdd, Nat.reduceMul, Nat.reduceLT, Nat.reduceLeDiff, Nat.reduceSub, reduceCtorEq, reduceIte, Int.reduceToNat, beq_self_eq_true, Bool.and_self, List.take_length]
        refine hNn _ (VWp.keepR [9] [83] tt_ok hF rfl fun Nag hNag => ?_); simp only [go_sem, Int.reduceEq, Int.reduceNe, Int.reduceLT, Int.reduceLE, Nat.reduceEqDiff, Nat.reduceAdd, Nat.reduceMul, Nat.reduceLT, Nat.reduceLeDiff, Nat.reduceSub, reduceCtorEq, reduceIte, Int.reduceToNat, beq_self_eq_true, Bool.and_self, List.take_length]
        refine hNag _ (VWp.keep [2,3,4] [83] ?_); simp only [go_sem, Int.reduceEq, Int.reduceNe, Int.reduceLT, Int.reduceLE, Nat.reduceEqDiff, Nat.reduceAdd, Nat.reduceMul, Nat.reduceLT, Nat.reduceLeDiff, Nat.reduceSub, reduceCtorEq, reduceIte, Int.reduceToNat, beq_self_eq_true, Bool.and_self, List.take_length]
        refine vwp_ret ?_
        simp only [go_sem, Int.reduceEq, Int.reduceNe, Int.reduceLT, Int.reduceLE, Nat.reduceEqDiff, Nat.reduceAdd, Nat.reduceMul, Nat.reduceLT, Nat.reduceLeDiff, Nat.reduceSub, reduceCtorEq, reduceIte, Int.reduceToNat, beq_self_eq_true, Bool.and_self, List.take_length]
        rw [hr]
        exact LeV.of_eq (by simp [stmsV])
      | some l =>
        have hlt : j < L.length := (List.getElem?_eq_some_iff.1 hg).1
        have hll := hmem l (List.mem_of_getElem? hg)
        have e2 : decide ((j : Int) < (L.length : Int)) = true := decide_eq_true (by omega)
        have hp : (0 : Int) ≤ (j : Int) ∧ (j : Int) < (L.length : Int) := ⟨by omega, by omega⟩
        have hrow : (L.map fun w => [V.str w]).getD j [] = [.str l] := by simp [hg]
        have hw : IntKind.i64.wrap ((j : Int) + 1) = ((j + 1 : Nat) : Int) := by rw [wrap_i64 (by omega) (by omega)]; rfl
        have hdd : (L.drop j).length = L.length - j := List.length_drop
        obtain ⟨k, rfl⟩ : ∃ k', k = k' + 1 := ⟨k - 1, by omega⟩
        have hd1 : (L.drop (j + 1)).length = L.length - (j + 1) := List.length_drop
        rw [drop_cons L j hg, deckJ_cons] at j1
        have h1 := isCard_spec l (by omega)
        have h2 := skipped_spec l (by omega)
        have h3 := HasPrefix_spec l [47, 47]
        have hlen := beg_len l [47, 47]
        generalize cardJ l = b1 at h1 j1
        generalize skipJ l = b2 at h2 j1
        generalize begJ l [47, 47] = b3 at h3 j1 hlen
        refine vwp_seq_k fun Np hNp => vreg tt_ok hF rfl ?_; simp only [go_sem, Int.reduceEq, Int.reduceNe, Int.reduceLT, Int.reduceLE, Nat.reduceEqDiff, Nat.reduceAdd, Nat.reduceMul, Nat.reduceLT, Nat.reduceLeDiff, Nat.reduceSub, reduceCtorEq, reduceIte, Int.reduceToNat, beq_self_eq_true, Bool.and_self, List.take_length, List.length_map, e2]
        refine hNp _ (VWp.keep [0,8,9,35] [28,83] ?_); simp only [go_sem, Int.reduceEq, Int.reduceNe, Int.reduceLT, Int.reduceLE, Nat.reduceEqDiff, Nat.reduceAdd, Nat.reduceMul, Nat.reduceLT, Nat.reduceLeDiff, Nat.reduceSub, reduceCtorEq, reduceIte, Int.reduceToNat, beq_self_eq_true, Bool.and_self, List.take_length]
        refine vif rfl ⟨fun ht => ?_, fun hf => (by cases hf)⟩
        refine vwp_skip (hNo _ ?_)
        refine vwp_block ?_
        refine vwp_seq_k fun Nq hNq => vreg tt_ok hF rfl ?_; simp only [go_sem, Int.reduceEq, Int.reduceNe, Int.reduceLT, Int.reduceLE, Nat.reduceEqDiff, Nat.reduceAdd, Nat.reduceMul, Nat.reduceLT, Nat.reduceLeDiff, Nat.reduceSub, reduceCtorEq, reduceIte, Int.reduceToNat, beq_self_eq_true, Bool.and_self, List.take_length, List.length_map, hp, hrow]
        refine hNq _ (VWp.keep [0,8,9,10] [28,83] ?_); simp only [go_sem, Int.reduceEq, Int.reduceNe, Int.reduceLT, Int.reduceLE, Nat.reduceEqDiff, Nat.reduceAdd, Nat.reduceMul, Nat.reduceLT, Nat.reduceLeDiff, Nat.reduceSub, reduceCtorEq, reduceIte, Int.reduceToNat, beq_self_eq_true, Bool.and_self, List.take_length]
        refine vwp_seq_k fun Nr hNr => ?_
        refine vwp_seq_k fun Ns hNs => vreg tt_ok hF rfl ?_; simp only [go_sem, Int.reduceEq, Int.reduceNe, Int.reduceLT, Int.reduceLE, Nat.reduceEqDiff, Nat.reduceAdd, Nat.reduceMul, Nat.reduceLT, Nat.reduceLeDiff, Nat.reduceSub, reduceCtorEq, reduceIte, Int.reduceToNat, beq_self_eq_true, Bool.and_self, List.take_length]
        refine .inl ⟨_, h1, ?_⟩; try simp only [go_sem, Int.reduceEq, Int.reduceNe, Int.reduceLT, Int.reduceLE, Nat.reduceEqDiff, Nat.reduceAdd, Nat.reduceMul, Nat.reduceLT, Nat.reduceLeDiff, Nat.reduceSub, reduceCtorEq, reduceIte, Int.reduceToNat, beq_self_eq_true, Bool.and_self, List.take_length]
        refine hNs _ (VWp.keep [0,8,9,10,45] [28,83] ?_); simp only [go_sem, Int.reduceEq, Int.reduceNe, Int.reduceLT, Int.reduceLE, Nat.reduceEqDiff, Nat.reduceAdd, Nat.reduceMul, Nat.reduceLT, Nat.reduceLeDiff, Nat.reduceSub, reduceCtorEq, reduceIte, Int.reduceToNat, beq_self_eq_true, Bool.and_self, List.take_length]
        cases b1
        · refine vif rfl ⟨fun ht => ?_, fun hf => (by cases hf)⟩
          have j1 : R = .inl (j + 1) := j1.symm
          subst j1
          have hr : scanV L = .tup [stmsV [], .int .i64 ((j + 1 : Nat) : Int), .int .i64 340] := hr
          refine vwp_seq_k fun Nt hNt => vregd tt_ok mixed hF rfl (by kernel_rfl) (by kernel_rfl) ?_; simp only [go_sem, Int.reduceEq, Int.reduceNe, Int.reduceLT, Int.reduceLE, Nat.reduceEqDiff, Nat.reduceAdd, Nat.reduceMul, Nat.reduceLT, Nat.reduceLeDiff, Nat.reduceSub, reduceCtorEq, reduceIte, Int.reduceToNat, beq_self_eq_true, Bool.and_self, List.take_length, hw]
          refine hNt _ (VWp.keep [2,3,4] [] ?_); simp only [go_sem, Int.reduceEq, Int.reduceNe, Int.reduceLT, Int.reduceLE, Nat.reduceEqDiff, Nat.reduceAdd, Nat.reduceMul, Nat.reduceLT, Nat.reduceLeDiff, Nat.reduceSub, reduceCtorEq, reduceIte, Int.reduceToNat, beq_self_eq_true, Bool.and_self, List.take_length]
          refine vwp_ret ?_
          simp only [go_sem, Int.reduceEq, Int.reduceNe, Int.reduceLT, Int.reduceLE, Nat.reduceEqDiff, Nat.reduceAdd, Nat.reduceMul, Nat.reduceLT, Nat.reduceLeDiff, Nat.reduceSub, reduceCtorEq, reduceIte, Int.reduceToNat, beq_self_eq_true, Bool.and_self, List.take_length]
          rw [hr]
          exact LeV.tup ⟨LeV.nil 5, LeV.refl _, LeV.refl _, trivial⟩
        refine vif rfl ⟨fun ht => (by cases ht), fun hf => ?_⟩
        refine vwp_skip (hNr _ ?_)
        rw [if_neg (by decide)] at j1
        refine vwp_seq_k fun Nu hNu => ?_
        refine vwp_seq_k fun Nv hNv => vreg tt_ok hF rfl ?_; simp only [go_sem, Int.reduceEq, Int.reduceNe, Int.reduceLT, Int.reduceLE, Nat.reduceEqDiff, Nat.reduceAdd, Nat.reduceMul, Nat.reduceLT, Nat.reduceLeDiff, Nat.reduceSub, reduceCtorEq, reduceIte, Int.reduceToNat, beq_self_eq_true, Bool.and_self, List.take_length]
        refine .inl ⟨_, h2, ?_⟩; try simp only [go_sem, Int.reduceEq, Int.reduceNe, Int.reduceLT, Int.reduceLE, Nat.reduceEqDiff, Nat.reduceAdd, Nat.reduceMul, Nat.reduceLT, Nat.reduceLeDiff, Nat.reduceSub, reduceCtorEq, reduceIte, Int.reduceToNat, beq_self_eq_true, Bool.and_self, List.take_length]
        refine hNv _ (VWp.keep [0,8,9,10,52] [28,83] ?_); simp only [go_sem, Int.reduceEq, Int.reduceNe, Int.reduceLT, Int.reduceLE, Nat.reduceEqDiff, Nat.reduceAdd, Nat.reduceMul, Nat.reduceLT, Nat.reduceLeDiff, Nat.reduceSub, reduceCtorEq, reduceIte, Int.reduceToNat, beq_self_eq_true, Bool.and_self, List.take_length]
        cases b2
        · refine vif rfl ⟨fun ht => (by cases ht), fun hf => ?_⟩
          refine vwp_skip (hNu _ ?_)
          rw [if_neg (by decide)] at j1
          refine vwp_seq_k fun Nx hNx => ?_
          refine vwp_seq_k fun Ny hNy => vreg tt_ok hF rfl ?_; simp only [go_sem, Int.reduceEq, Int.reduceNe, Int.reduceLT, Int.reduceLE, Nat.reduceEqDiff, Nat.reduceAdd, Nat.reduceMul, Nat.reduceLT, Nat.reduceLeDiff, Nat.reduceSub, reduceCtorEq, reduceIte, Int.reduceToNat, beq_self_eq_true, Bool.and_self, List.take_length]
          refine .inl ⟨_, h3, ?_⟩; try simp only [go_sem, Int.reduceEq, Int.reduceNe, Int.reduceLT, Int.reduceLE, Nat.reduceEqDiff, Nat.reduceAdd, Nat.reduceMul, Nat.reduceLT, Nat.reduceLeDiff, Nat.reduceSub, reduceCtorEq, reduceIte, Int.reduceToNat, beq_self_eq_true, Bool.and_self, List.take_length]
          refine hNy _ (VWp.keep [0,8,9,62] [28,83] ?_); simp only [go_sem, Int.reduceEq, Int.reduceNe, Int.reduceLT, Int.reduceLE, Nat.reduceEqDiff, Nat.reduceAdd, Nat.reduceMul, Nat.reduceLT, Nat.reduceLeDiff, Nat.reduceSub, reduceCtorEq, reduceIte, Int.reduceToNat, beq_self_eq_true, Bool.and_self, List.take_length]
          cases b3
          · refine vif rfl ⟨fun ht => ?_, fun hf => (by cases hf)⟩
            have j1 : R = .inl (j + 1) := j1.symm
            subst j1
            have hr : scanV L = .tup [stmsV [], .int .i64 ((j + 1 : Nat) : Int), .int .i64 340] := hr
            refine vwp_seq_k fun Nz hNz => vregd tt_ok mixed hF rfl (by kernel_rfl) (by kernel_rfl) ?_; simp only [go_sem, Int.reduceEq, Int.reduceNe, Int.reduceLT, Int.reduceLE, Nat.reduceEqDiff, Nat.reduceAdd, Nat.reduceMul, Nat.reduceLT, Nat.reduceLeDiff, Nat.reduceSub, reduceCtorEq, reduceIte, Int.reduceToNat, beq_self_eq_true, Bool.and_self, List.take_length, hw]
            refine hNz _ (VWp.keep [2,3,4] [] ?_); simp only [go_sem, Int.reduceEq, Int.reduceNe, Int.reduceLT, Int.reduceLE, Nat.reduceEqDiff, Nat.reduceAdd, Nat.reduceMul, Nat.reduceLT, Nat.reduceLeDiff, Nat.reduceSub, reduceCtorEq, reduceIte, Int.reduceToNat, beq_self_eq_true, Bool.and_self, List.take_length]
            refine vwp_ret ?_
            simp only [go_sem, Int.reduceEq, Int.reduceNe, Int.reduceLT, Int.reduceLE, Nat.reduceEqDiff, Nat.reduceAdd, Nat.reduceMul, Nat.reduceLT, Nat.reduceLeDiff, Nat.reduceSub, reduceCtorEq, reduceIte, Int.reduceToNat, beq_self_eq_true, Bool.and_self, List.take_length]
            rw [hr]
            exact LeV.tup ⟨LeV.nil 5, LeV.refl _, LeV.refl _, trivial⟩
          refine vif rfl ⟨fun ht => (by cases ht), fun hf => ?_⟩
          refine vwp_skip (hNx _ ?_)
          rw [if_neg (by decide)] at j1
          have h2l : 2 ≤ l.length := hlen rfl
          have h4 := statement_B L j l hg h2l hL (by omega)
          cases hst : stmtJ L.length l (L.drop (j + 1)) j with
          | inl b =>
            rw [hst] at h4 j1
            have hb := stmtJ_pos (by omega) hst
            have j1 : R = .inl b := j1.symm
            subst j1
            have hr : scanV L = .tup [stmsV [], .int .i64 (b : Int), .int .i64 340] := hr
            generalize stmtA L.length l (L.drop (j + 1)) j = A at h4
            simp only [stmtV] at h4
            have e3 : decide ((b : Int) = 0) = false := decide_eq_false (by omega)
            have e4 : decide ((0 : Int) < (b : Int)) = true := decide_eq_true (by omega)
            refine vwp_seq_k fun Naa hNaa => vreg tt_ok hF rfl ?_; simp only [go_sem, Int.reduceEq, Int.reduceNe, Int.reduceLT, Int.reduceLE, Nat.reduceEqDiff, Nat.reduceAdd, Nat.reduceMul, Nat.reduceLT, Nat.reduceLeDiff, Nat.reduceSub, reduceCtorEq, reduceIte, Int.reduceToNat, beq_self_eq_true, Bool.and_self, List.take_length]
            refine .inr (bxo [(1000000, 28)] rfl ?_); simp only [go_sem, Int.reduceEq, Int.reduceNe, Int.reduceLT, Int.reduceLE, Nat.reduceEqDiff, Nat.reduceAdd, Nat.reduceMul, Nat.reduceLT, Nat.reduceLeDiff, Nat.reduceSub, reduceCtorEq, reduceIte, Int.reduceToNat, beq_self_eq_true, Bool.and_self, List.take_length]; refine ⟨_, _, h4, ?_⟩; try simp only [go_sem, Int.reduceEq, Int.reduceNe, Int.reduceLT, Int.reduceLE, Nat.reduceEqDiff, Nat.reduceAdd, Nat.reduceMul, Nat.reduceLT, Nat.reduceLeDiff, Nat.reduceSub, reduceCtorEq, reduceIte, Int.reduceToNat, beq_self_eq_true, Bool.and_self, List.take_length]
            refine hNaa _ (VWp.keep [0,8,9,11,12] [11,28,83] ?_); simp only [go_sem, Int.reduceEq, Int.reduceNe, Int.reduceLT, Int.reduceLE, Nat.reduceEqDiff, Nat.reduceAdd, Nat.reduceMul, Nat.reduceLT, Nat.reduceLeDiff, Nat.reduceSub, reduceCtorEq, reduceIte, Int.reduceToNat, beq_self_eq_true, Bool.and_self, List.take_length]
            refine vwp_seq_k fun Nab hNab => ?_
            refine vwp_seq_k fun Nac hNac => vreg tt_ok hF rfl ?_; simp only [go_sem, Int.reduceEq, Int.reduceNe, Int.reduceLT, Int.reduceLE, Nat.reduceEqDiff, Nat.reduceAdd, Nat.reduceMul, Nat.reduceLT, Nat.reduceLeDiff, Nat.reduceSub, reduceCtorEq, reduceIte, Int.reduceToNat, beq_self_eq_true, Bool.and_self, List.take_length, e3]
            refine hNac _ (VWp.keep [0,8,9,11,12,74] [11,28,83] ?_); simp only [go_sem, Int.reduceEq, Int.reduceNe, Int.reduceLT, Int.reduceLE, Nat.reduceEqDiff, Nat.reduceAdd, Nat.reduceMul, Nat.reduceLT, Nat.reduceLeDiff, Nat.reduceSub, reduceCtorEq, reduceIte, Int.reduceToNat, beq_self_eq_true, Bool.and_self, List.take_length]
            refine vif rfl ⟨fun ht => (by cases ht), fun hf => ?_⟩
            refine vwp_skip (hNab _ ?_)
            refine vwp_seq_k fun Nad hNad => ?_
            refine vwp_seq_k fun Nae hNae => vreg tt_ok hF rfl ?_; simp only [go_sem, Int.reduceEq, Int.reduceNe, Int.reduceLT, Int.reduceLE, Nat.reduceEqDiff, Nat.reduceAdd, Nat.reduceMul, Nat.reduceLT, Nat.reduceLeDiff, Nat.reduceSub, reduceCtorEq, reduceIte, Int.reduceToNat, beq_self_eq_true, Bool.and_self, List.take_length, e4]
            refine hNae _ (VWp.keep [0,8,9,11,12,78] [11,28,83] ?_); simp only [go_sem, Int.reduceEq, Int.reduceNe, Int.reduceLT, Int.reduceLE, Nat.reduceEqDiff, Nat.reduceAdd, Nat.reduceMul, Nat.reduceLT, Nat.reduceLeDiff, Nat.reduceSub, reduceCtorEq, reduceIte, Int.reduceToNat, beq_self_eq_true, Bool.and_self, List.take_length]
            refine vif rfl ⟨fun ht => ?_, fun hf => (by cases hf)⟩
            refine vwp_seq_k fun Naf hNaf => vreg tt_ok hF rfl ?_; simp only [go_sem, Int.reduceEq, Int.reduceNe, Int.reduceLT, Int.reduceLE, Nat.reduceEqDiff, Nat.reduceAdd, Nat.reduceMul, Nat.reduceLT, Nat.reduceLeDiff, Nat.reduceSub, reduceCtorEq, reduceIte, Int.reduceToNat, beq_self_eq_true, Bool.and_self, List.take_length]
            refine hNaf _ (VWp.keep [2,3,4] [] ?_); simp only [go_sem, Int.reduceEq, Int.reduceNe, Int.reduceLT, Int.reduceLE, Nat.reduceEqDiff, Nat.reduceAdd, Nat.reduceMul, Nat.reduceLT, Nat.reduceLeDiff, Nat.reduceSub, reduceCtorEq, reduceIte, Int.reduceToNat, beq_self_eq_true, Bool.and_self, List.take_length]
            refine vwp_ret ?_
            simp only [go_sem, Int.reduceEq, Int.reduceNe, Int.reduceLT, Int.reduceLE, Nat.reduceEqDiff, Nat.reduceAdd, Nat.reduceMul, Nat.reduceLT, Nat.reduceLeDiff, Nat.reduceSub, reduceCtorEq, reduceIte, Int.reduceToNat, beq_self_eq_true, Bool.and_self, List.take_length]
            rw [hr]
            exact LeV.tup ⟨LeV.nil 5, LeV.refl _, LeV.refl _, trivial⟩
          | inr x =>
            obtain ⟨s, t2, i2⟩ := x
            rw [hst] at h4 j1
            rw [stmtA_ok hst] at h4
            have hs1 := stmtJ_len hst
            obtain ⟨pre, hpre, _⟩ := stmtJ_pre hst
            obtain ⟨q1, q2, q3⟩ := suffix_drop pre hpre hs1.2.1 (by omega)
            subst q1
            obtain ⟨line, name, op, params, data⟩ := s
            have hd0 : data = [] := hs1.2.2.2
            subst hd0
            have h5 := data_B L i2 q2 hL hmem line name op params
            have j1 : joinD ss (match dataJ (kindJ ⟨line, name, op, params, []⟩) (L.drop i2) i2 with
              | .inl b => .inl b
              | .inr (d, t3, i3) => match deckJ L.length k t3 i3 with
                | .inl b => .inl b
                | .inr ss => .inr (⟨line, name, op, params, d⟩ :: ss)) = R := j1
            have hd2 : (L.drop i2).length = L.length - i2 := List.length_drop
            simp only [stmtV, stmN] at h4
            refine vwp_seq_k fun Naa hNaa => vreg tt_ok hF rfl ?_; simp only [go_sem, Int.reduceEq, Int.reduceNe, Int.reduceLT, Int.reduceLE, Nat.reduceEqDiff, Nat.reduceAdd, Nat.reduceMul, Nat.reduceLT, Nat.reduceLeDiff, Nat.reduceSub, reduceCtorEq, reduceIte, Int.reduceToNat, beq_self_eq_true, Bool.and_self, List.take_length]
            refine .inr (bxo [(1000000, 28)] rfl ?_); simp only [go_sem, Int.reduceEq, Int.reduceNe, Int.reduceLT, Int.reduceLE, Nat.reduceEqDiff, Nat.reduceAdd, Nat.reduceMul, Nat.reduceLT, Nat.reduceLeDiff, Nat.reduceSub, reduceCtorEq, reduceIte, Int.reduceToNat, beq_self_eq_true, Bool.and_self, List.take_length]; refine ⟨_, _, h4, ?_⟩; try simp only [go_sem, Int.reduceEq, Int.reduceNe, Int.reduceLT, Int.reduceLE, Nat.reduceEqDiff, Nat.reduceAdd, Nat.reduceMul, Nat.reduceLT, Nat.reduceLeDiff, Nat.reduceSub, reduceCtorEq, reduceIte, Int.reduceToNat, beq_self_eq_true, Bool.and_self, List.take_length]
            refine hNaa _ (VWp.keep [0,8,9,11,12] [11,28,83] ?_); simp only [go_sem, Int.reduceEq, Int.reduceNe, Int.reduceLT, Int.reduceLE, Nat.reduceEqDiff, Nat.reduceAdd, Nat.reduceMul, Nat.reduceLT, Nat.reduceLeDiff, Nat.reduceSub, reduceCtorEq, reduceIte, Int.reduceToNat, beq_self_eq_true, Bool.and_self, List.take_length]
            refine vwp_seq_k fun Nab hNab => ?_
            refine vwp_seq_k fun Nac hNac => vreg tt_ok hF rfl ?_; simp only [go_sem, Int.reduceEq, Int.reduceNe, Int.reduceLT, Int.reduceLE, Nat.reduceEqDiff, Nat.reduceAdd, Nat.reduceMul, Nat.reduceLT, Nat.reduceLeDiff, Nat.reduceSub, reduceCtorEq, reduceIte, Int.reduceToNat, beq_self_eq_true, Bool.and_self, List.take_length]
            refine hNac _ (VWp.keep [0,8,9,11,12,74] [11,28,83] ?_); simp only [go_sem, Int.reduceEq, Int.reduceNe, Int.reduceLT, Int.reduceLE, Nat.reduceEqDiff, Nat.reduceAdd, Nat.reduceMul, Nat.reduceLT, Nat.reduceLeDiff, Nat.reduceSub, reduceCtorEq, reduceIte, Int.reduceToNat, beq_self_eq_true, Bool.and_self, List.take_length]
            refine vif rfl ⟨fun ht => ?_, fun hf => (by cases hf)⟩
            refine VWp.adoptB 500000 1 9 (o := 11) (i := 4) rfl rfl rfl (by decide) ?_
            refine VWp.keep [0,8,9,11,12] [11,28,83,500000] ?_; simp only [go_sem, Int.reduceEq, Int.reduceNe, Int.reduceLT, Int.reduceLE, Nat.reduceEqDiff, Nat.reduceAdd, Nat.reduceMul, Nat.reduceLT, Nat.reduceLeDiff, Nat.reduceSub, reduceCtorEq, reduceIte, Int.reduceToNat, beq_self_eq_true, Bool.and_self, List.take_length]
            generalize kindJ ⟨line, name, op, params, []⟩ = kd at h5 j1
            cases hdt : dataJ kd (L.drop i2) i2 with
            | inl b =>
              rw [hdt] at h5 j1
              have hb := dataJ_pos _ _ hdt
              have j1 : R = .inl b := j1.symm
              subst j1
              have hr : scanV L = .tup [stmsV [], .int .i64 (b : Int), .int .i64 340] := hr
              generalize dcol kd (L.drop i2) = D at h5
              simp only [dataR, dataI] at h5
              have e4 : decide ((0 : Int) < (b : Int)) = true := decide_eq_true (by omega)
              refine vreg tt_ok hF rfl ?_; simp only [go_sem, Int.reduceEq, Int.reduceNe, Int.reduceLT, Int.reduceLE, Nat.reduceEqDiff, Nat.reduceAdd, Nat.reduceMul, Nat.reduceLT, Nat.reduceLeDiff, Nat.reduceSub, reduceCtorEq, reduceIte, Int.reduceToNat, beq_self_eq_true, Bool.and_self, List.take_length]
              refine .inr (bxo [(1000000, 28), (1000001, 11), (1000002, 500000)] rfl ?_); simp only [go_sem, Int.reduceEq, Int.reduceNe, Int.reduceLT, Int.reduceLE, Nat.reduceEqDiff, Nat.reduceAdd, Nat.reduceMul, Nat.reduceLT, Nat.reduceLeDiff, Nat.reduceSub, reduceCtorEq, reduceIte, Int.reduceToNat, beq_self_eq_true, Bool.and_self, List.take_length]; refine ⟨_, _, h5, ?_⟩; try simp only [go_sem, Int.reduceEq, Int.reduceNe, Int.reduceLT, Int.reduceLE, Nat.reduceEqDiff, Nat.reduceAdd, Nat.reduceMul, Nat.reduceLT, Nat.reduceLeDiff, Nat.reduceSub, reduceCtorEq, reduceIte, Int.reduceToNat, beq_self_eq_true, Bool.and_self, List.take_length]
              refine hNab _ (VWp.keep [0,8,9,11,12] [11,28,83,500000] ?_); simp only [go_sem, Int.reduceEq, Int.reduceNe, Int.reduceLT, Int.reduceLE, Nat.reduceEqDiff, Nat.reduceAdd, Nat.reduceMul, Nat.reduceLT, Nat.reduceLeDiff, Nat.reduceSub, reduceCtorEq, reduceIte, Int.reduceToNat, beq_self_eq_true, Bool.and_self, List.take_length]
              refine vwp_seq_k fun Nad hNad => ?_
              refine vwp_seq_k fun Nae hNae => vreg tt_ok hF rfl ?_; simp only [go_sem, Int.reduceEq, Int.reduceNe, Int.reduceLT, Int.reduceLE, Nat.reduceEqDiff, Nat.reduceAdd, Nat.reduceMul, Nat.reduceLT, Nat.reduceLeDiff, Nat.reduceSub, reduceCtorEq, reduceIte, Int.reduceToNat, beq_self_eq_true, Bool.and_self, List.take_length, e4]
              refine hNae _ (VWp.keep [0,8,9,11,12,78] [11,28,83,500000] ?_); simp only [go_sem, Int.reduceEq, Int.reduceNe, Int.reduceLT, Int.reduceLE, Nat.reduceEqDiff, Nat.reduceAdd, Nat.reduceMul, Nat.reduceLT, Nat.reduceLeDiff, Nat.reduceSub, reduceCtorEq, reduceIte, Int.reduceToNat, beq_self_eq_true, Bool.and_self, List.take_length]
              refine vif rfl ⟨fun ht => ?_, fun hf => (by cases hf)⟩
              refine vwp_seq_k fun Naf hNaf => vreg tt_ok hF rfl ?_; simp only [go_sem, Int.reduceEq, Int.reduceNe, Int.reduceLT, Int.reduceLE, Nat.reduceEqDiff, Nat.reduceAdd, Nat.reduceMul, Nat.reduceLT, Nat.reduceLeDiff, Nat.reduceSub, reduceCtorEq, reduceIte, Int.reduceToNat, beq_self_eq_true, Bool.and_self, List.take_length]
              refine hNaf _ (VWp.keep [2,3,4] [] ?_); simp only [go_sem, Int.reduceEq, Int.reduceNe, Int.reduceLT, Int.reduceLE, Nat.reduceEqDiff, Nat.reduceAdd, Nat.reduceMul, Nat.reduceLT, Nat.reduceLeDiff, Nat.reduceSub, reduceCtorEq, reduceIte, Int.reduceToNat, beq_self_eq_true, Bool.and_self, List.take_length]
              refine vwp_ret ?_
              simp only [go_sem, Int.reduceEq, Int.reduceNe, Int.reduceLT, Int.reduceLE, Nat.reduceEqDiff, Nat.reduceAdd, Nat.reduceMul, Nat.reduceLT, Nat.reduceLeDiff, Nat.reduceSub, reduceCtorEq, reduceIte, Int.reduceToNat, beq_self_eq_true, Bool.and_self, List.take_length]
              rw [hr]
              exact LeV.tup ⟨LeV.nil 5, LeV.refl _, LeV.refl _, trivial⟩
            | inr y =>
              obtain ⟨d, t3, i3⟩ := y
              rw [hdt] at h5 j1
              have hdd2 := dataJ_dcol _ _ hdt
              have hdl := dataJ_len _ _ hdt
              obtain ⟨pre2, hpre2⟩ := dataJ_suf _ _ hdt
              obtain ⟨r1, r2, r3⟩ := suffix_drop pre2 hpre2 hdl.2 (by omega)
              subst r1
              rw [← hdd2] at h5
              have hd3 : (L.drop i3).length = L.length - i3 := List.length_drop
              simp only [dataR, dataI] at h5
              refine vreg tt_ok hF rfl ?_; simp only [go_sem, Int.reduceEq, Int.reduceNe, Int.reduceLT, Int.reduceLE, Nat.reduceEqDiff, Nat.reduceAdd, Nat.reduceMul, Nat.reduceLT, Nat.reduceLeDiff, Nat.reduceSub, reduceCtorEq, reduceIte, Int.reduceToNat, beq_self_eq_true, Bool.and_self, List.take_length]
              refine .inr (bxo [(1000000, 28), (1000001, 11), (1000002, 500000)] rfl ?_); simp only [go_sem, Int.reduceEq, Int.reduceNe, Int.reduceLT, Int.reduceLE, Nat.reduceEqDiff, Nat.reduceAdd, Nat.reduceMul, Nat.reduceLT, Nat.reduceLeDiff, Nat.reduceSub, reduceCtorEq, reduceIte, Int.reduceToNat, beq_self_eq_true, Bool.and_self, List.take_length]; refine ⟨_, _, h5, ?_⟩; try simp only [go_sem, Int.reduceEq, Int.reduceNe, Int.reduceLT, Int.reduceLE, Nat.reduceEqDiff, Nat.reduceAdd, Nat.reduceMul, Nat.reduceLT, Nat.reduceLeDiff, Nat.reduceSub, reduceCtorEq, reduceIte, Int.reduceToNat, beq_self_eq_true, Bool.and_self, List.take_length]
              refine hNab _ (VWp.keep [0,8,9,11,12] [11,28,83,500000] ?_); simp only [go_sem, Int.reduceEq, Int.reduceNe, Int.reduceLT, Int.reduceLE, Nat.reduceEqDiff, Nat.reduceAdd, Nat.reduceMul, Nat.reduceLT, Nat.reduceLeDiff, Nat.reduceSub, reduceCtorEq, reduceIte, Int.reduceToNat, beq_self_eq_true, Bool.and_self, List.take_length]
              refine vwp_seq_k fun Nad hNad => ?_
              refine vwp_seq_k fun Nae hNae => vreg tt_ok hF rfl ?_; simp only [go_sem, Int.reduceEq, Int.reduceNe, Int.reduceLT, Int.reduceLE, Nat.reduceEqDiff, Nat.reduceAdd, Nat.reduceMul, Nat.reduceLT, Nat.reduceLeDiff, Nat.reduceSub, reduceCtorEq, reduceIte, Int.reduceToNat, beq_self_eq_true, Bool.and_self, List.take_length]
              refine hNae _ (VWp.keep [0,8,9,11,12,78] [11,28,83,500000] ?_); simp only [go_sem, Int.reduceEq, Int.reduceNe, Int.reduceLT, Int.reduceLE, Nat.reduceEqDiff, Nat.reduceAdd, Nat.reduceMul, Nat.reduceLT, Nat.reduceLeDiff, Nat.reduceSub, reduceCtorEq, reduceIte, Int.reduceToNat, beq_self_eq_true, Bool.and_self, List.take_length]
              refine vif rfl ⟨fun ht => (by cases ht), fun hf => ?_⟩
              refine vwp_skip (hNad _ ?_)
              refine VWp.lookB 11 4 (d := 500000) rfl rfl rfl (by simp) ?_
              refine VWp.keep [0,8,9,11] [11,28,83] ?_; simp only [go_sem, Int.reduceEq, Int.reduceNe, Int.reduceLT, Int.reduceLE, Nat.reduceEqDiff, Nat.reduceAdd, Nat.reduceMul, Nat.reduceLT, Nat.reduceLeDiff, Nat.reduceSub, reduceCtorEq, reduceIte, Int.reduceToNat, beq_self_eq_true, Bool.and_self, List.take_length]
              refine vreg tt_ok hF rfl ?_; simp only [go_sem, Int.reduceEq, Int.reduceNe, Int.reduceLT, Int.reduceLE, Nat.reduceEqDiff, Nat.reduceAdd, Nat.reduceMul, Nat.reduceLT, Nat.reduceLeDiff, Nat.reduceSub, reduceCtorEq, reduceIte, Int.reduceToNat, beq_self_eq_true, Bool.and_self, List.take_length]
              refine ⟨by omega, ?_⟩
              refine ⟨(i3, ss ++ [⟨line, name, op, params, d⟩]), ⟨r2, by simp; omega, k, by show (L.drop i3).length ≤ k; omega, ?_⟩, by simp only; omega, by simp [stmC, prmsV, strsV]⟩
              show joinD (ss ++ [⟨line, name, op, params, d⟩]) (deckJ L.length k (L.drop i3) i3) = R
              rw [← j1]
              dsimp only
              generalize deckJ L.length k (L.drop i3) i3 = DR
              cases DR <;> simp [joinD]
        · refine vif rfl ⟨fun ht => ?_, fun hf => (by cases hf)⟩
          rw [if_pos rfl] at j1
          refine vwp_seq_k fun Nw hNw => vreg tt_ok hF rfl ?_; simp only [go_sem, Int.reduceEq, Int.reduceNe, Int.reduceLT, Int.reduceLE, Nat.reduceEqDiff, Nat.reduceAdd, Nat.reduceMul, Nat.reduceLT, Nat.reduceLeDiff, Nat.reduceSub, reduceCtorEq, reduceIte, Int.reduceToNat, beq_self_eq_true, Bool.and_self, List.take_length, hw]
          refine hNw _ (VWp.keep [0,8,9] [28,83] ?_); simp only [go_sem, Int.reduceEq, Int.reduceNe, Int.reduceLT, Int.reduceLE, Nat.reduceEqDiff, Nat.reduceAdd, Nat.reduceMul, Nat.reduceLT, Nat.reduceLeDiff, Nat.reduceSub, reduceCtorEq, reduceIte, Int.reduceToNat, beq_self_eq_true, Bool.and_self, List.take_length]
          refine vwp_exit ?_
          simp only [go_sem, Int.reduceEq, Int.reduceNe, Int.reduceLT, Int.reduceLE, Nat.reduceEqDiff, Nat.reduceAdd, Nat.reduceMul, Nat.reduceLT, Nat.reduceLeDiff, Nat.reduceSub, reduceCtorEq, reduceIte, Int.reduceToNat, beq_self_eq_true, Bool.and_self, List.take_length]
          exact ⟨(j + 1, ss), ⟨by simp only; omega, by simp only; omega, k, by show (L.drop (j + 1)).length ≤ k; omega, j1⟩, by simp only; omega, by simp⟩
end Go.Proofs.YtnaljgmcpagbbaaGreatDoor
