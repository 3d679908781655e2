import Derived.Outline
import Derived.Test.YtnaljgmcpagbbaaGreatDoorJP1
/- Layer 34: the bytes outside of quotations. -/
-- SIMP: beq_self_eq_true, Bool.and_self
namespace Go.Proofs.YtnaljgmcpagbbaaGreatDoor
open Go.RowKit
set_option linter.unusedVariables false
set_option linter.unusedSimpArgs false
theorem walkJ_step (c : UInt8) (t : Jb) (i : Nat) (d : Int) (q : Bool) : walkJ (c :: t) i d q = if c == 39 then walkJ t (i + 1) d (!q)
    else if q then walkJ t (i + 1) d q
    else if dnJ c d < 0 then ([], false)
    else ((i, c, dnJ c d) :: (walkJ t (i + 1) (upJ c (dnJ c d)) q).1, (walkJ t (i + 1) (upJ c (dnJ c d)) q).2) := rfl
theorem drop_at (s : Jb) (i : Nat) (h : i < s.length) : s.drop i = s.getD i 0 :: s.drop (i + 1) := by
  rw [List.drop_eq_getElem_cons h, List.getD_eq_getElem?_getD, List.getElem?_eq_getElem h]; rfl
set_option maxHeartbeats 16000000 in
set_option maxRecDepth 4000 in
theorem walk_b (vf : FuncId) (f : Bool → Nat × UInt8 × Int → Bool) (Inv : Bool → Nat → Prop) (s : Jb) (hs : s.length ≤ 1000000000) (st : Bool) (I0 : Inv st 0) (Im : ∀ σ i, Inv σ i → Inv σ (i + 1)) (Iv : ∀ σ i c d, Inv σ i → Inv (f σ (i, c, d)) (i + 1))
    (hv : ∀ (σ : Bool) (i : Nat) (c : UInt8) (d : Int), i < s.length → 0 ≤ d → d ≤ 1000000000 → Inv σ i → SpecB Tryz.prog vf [.int .i64 (i : Int), .int .u8 ((c.toNat : Nat) : Int), .int .i64 d, .ptr 1000000 0] [(1000000, .box 4 [.bool σ])] (.tup []) [(1000000, .box 4 [.bool (f σ (i, c, d))])]) :
    SpecB Tryz.prog 39 [.str s, .fn (.func vf) [.ptr 1000000 0]] [(1000000, .box 4 [.bool st])] (.bool (balJ s)) [(1000000, .box 4 [.bool ((visJ s).foldl f st)])] := by
  obtain ⟨R, hR⟩ : ∃ R, (visJ s).foldl f st = R := ⟨_, rfl⟩
  obtain ⟨B, hB⟩ : ∃ B, balJ s = B := ⟨_, rfl⟩
  rw [hR, hB]
  refine specB_of tt_ok Tryz.func39 rfl (by decide) Tryz.ntmps39 (congrArg Array.toList Tryz.results39) (by simp) (by decide) rfl (by simp only [go_sem, Int.reduceEq, Int.reduceNe, Int.reduceLT, Int.reduceLE, Nat.reduceEqDiff, Nat.reduceAdd, Nat.reduceMul, Nat.reduceLT, Nat.reduceLeDiff, Nat.reduceSub, reduceCtorEq, reduceIte, Int.reduceToNat, beq_self_eq_true, Bool.and_self]) (fun F hF => ?_)
  refine vwp_seq_k fun Na hNa => vreg tt_ok hF rfl ?_; simp only [go_sem, Int.reduceEq, Int.reduceNe, Int.reduceLT, Int.reduceLE, Nat.reduceEqDiff, Nat.reduceAdd, Nat.reduceMul, Nat.reduceLT, Nat.reduceLeDiff, Nat.reduceSub, reduceCtorEq, reduceIte, Int.reduceToNat, beq_self_eq_true, Bool.and_self]
  refine hNa _ (VWp.keepR [0,1] [1000000] tt_ok hF rfl fun Nb hNb => ?_); simp only [go_sem, Int.reduceEq, Int.reduceNe, Int.reduceLT, Int.reduceLE, Nat.reduceEqDiff, Nat.reduceAdd, Nat.reduceMul, Nat.reduceLT, Nat.reduceLeDiff, Nat.reduceSub, reduceCtorEq, reduceIte, Int.reduceToNat, beq_self_eq_true, Bool.and_self]
  refine hNb _ (VWp.keep [0,1,5,6] [1000000] ?_); simp only [go_sem, Int.reduceEq, Int.reduceNe, Int.reduceLT, Int.reduceLE, Nat.reduceEqDiff, Nat.reduceAdd, Nat.reduceMul, Nat.reduceLT, Nat.reduceLeDiff, Nat.reduceSub, reduceCtorEq, reduceIte, Int.reduceToNat, beq_self_eq_true, Bool.and_self]
  refine vwp_seq_k fun Nc hNc => ?_
  refine vwp_seq_k fun Nd hNd => vreg tt_ok hF rfl ?_; simp only [go_sem, Int.reduceEq, Int.reduceNe, Int.reduceLT, Int.reduceLE, Nat.reduceEqDiff, Nat.reduceAdd, Nat.reduceMul, Nat.reduceLT, Nat.reduceLeDiff, Nat.reduceSub, reduceCtorEq, reduceIte, Int.reduceToNat, beq_self_eq_true, Bool.and_self]
  refine hNd _ (VWp.keep [0,1,5,6,10,11] [1000000] ?_); simp only [go_sem, Int.reduceEq, Int.reduceNe, Int.reduceLT, Int.reduceLE, Nat.reduceEqDiff, Nat.reduceAdd, Nat.reduceMul, Nat.reduceLT, Nat.reduceLeDiff, Nat.reduceSub, reduceCtorEq, reduceIte, Int.reduceToNat, beq_self_eq_true, Bool.and_self]
  refine vwp_block (vloop (fun z : Nat × Int × Bool × Bool => [(0, .str s), (1, .fn (.func vf) [.ptr 1000000 0]), (5, .int .i64 z.2.1), (6, .bool z.2.2.1), (10, .int .i64 (s.length : Int)), (11, .int .i64 (z.1 : Int))]) (fun z => [(1000000, .box 4 [.bool z.2.2.2])])
    (fun z => z.1 ≤ s.length ∧ 0 ≤ z.2.1 ∧ z.2.1 ≤ z.1 ∧ Inv z.2.2.2 z.1 ∧ (walkJ (s.drop z.1) z.1 z.2.1 z.2.2.1).1.foldl f z.2.2.2 = R ∧ (walkJ (s.drop z.1) z.1 z.2.1 z.2.2.1).2 = B) (fun z => s.length - z.1) (0, 0, false, st)
    ⟨by simp, by simp, by simp, I0, hR, hB⟩ (by simp only [go_sem, Int.reduceEq, Int.reduceNe, Int.reduceLT, Int.reduceLE, Nat.reduceEqDiff, Nat.reduceAdd, Nat.reduceMul, Nat.reduceLT, Nat.reduceLeDiff, Nat.reduceSub, reduceCtorEq, reduceIte, Int.reduceToNat, beq_self_eq_true, Bool.and_self]) ?_)
  rintro ⟨i, d, q, σ⟩ ⟨j1, j2, j3, j4, j5, j6⟩
  have j1 : i ≤ s.length := j1
  have j2 : 0 ≤ d := j2
  have j3 : d ≤ i := j3
  have j4 : Inv σ i := j4
  have j5 : (walkJ (s.drop i) i d q).1.foldl f σ = R := j5
  have j6 : (walkJ (s.drop i) i d q).2 = B := j6
  try dsimp only
  refine vwp_seq_k fun Ne hNe => vreg tt_ok hF rfl ?_; simp only [go_sem, Int.reduceEq, Int.reduceNe, Int.reduceLT, Int.reduceLE, Nat.reduceEqDiff, Nat.reduceAdd, Nat.reduceMul, Nat.reduceLT, Nat.reduceLeDiff, Nat.reduceSub, reduceCtorEq, reduceIte, Int.reduceToNat, beq_self_eq_true, Bool.and_self]
  refine hNe _ (VWp.keep [0,1,5,6,10,11,12] [1000000] ?_); simp only [go_sem, Int.reduceEq, Int.reduceNe, Int.reduceLT, Int.reduceLE, Nat.reduceEqDiff, Nat.reduceAdd, Nat.reduceMul, Nat.reduceLT, Nat.reduceLeDiff, Nat.reduceSub, reduceCtorEq, reduceIte, Int.reduceToNat, beq_self_eq_true, Bool.and_self]
  refine vwp_seq_k fun Nf hNf => ?_
  refine vif rfl ⟨fun ht => ?_, fun hf => ?_⟩
  · have hlt : i < s.length := by have := of_decide_eq_true ht; omega
    have hvi := fun c => hv σ i c (dnJ c d) hlt
    rw [drop_at s i hlt] at j5 j6
    have hnext := fun (d' : Int) (q' : Bool) (σ' : Bool) (k2 : 0 ≤ d') (k3 : d' ≤ i + 1) (k4 : Inv σ' (i + 1)) (k5 : (walkJ (s.drop (i + 1)) (i + 1) d' q').1.foldl f σ' = R) (k6 : (walkJ (s.drop (i + 1)) (i + 1) d' q').2 = B) =>
      (⟨by omega, k2, by push_cast; omega, k4, k5, k6⟩ : i + 1 ≤ s.length ∧ 0 ≤ d' ∧ d' ≤ ((i + 1 : Nat) : Int) ∧ Inv σ' (i + 1) ∧ (walkJ (s.drop (i + 1)) (i + 1) d' q').1.foldl f σ' = R ∧ (walkJ (s.drop (i + 1)) (i + 1) d' q').2 = B)
    refine vwp_skip (hNf _ ?_)
    refine vwp_seq_k fun Ng hNg => ?_
    refine vwp_block ?_
    refine vwp_seq_k fun Nh hNh => vreg tt_ok hF rfl ?_; simp only [go_sem, Int.reduceEq, Int.reduceNe, Int.reduceLT, Int.reduceLE, Nat.reduceEqDiff, Nat.reduceAdd, Nat.reduceMul, Nat.reduceLT, Nat.reduceLeDiff, Nat.reduceSub, reduceCtorEq, reduceIte, Int.reduceToNat, beq_self_eq_true, Bool.and_self]
    refine hNh _ (VWp.keepR [0,1,5,6,7,10,11] [1000000] tt_ok hF rfl fun Ni hNi => ?_); simp only [go_sem, Int.reduceEq, Int.reduceNe, Int.reduceLT, Int.reduceLE, Nat.reduceEqDiff, Nat.reduceAdd, Nat.reduceMul, Nat.reduceLT, Nat.reduceLeDiff, Nat.reduceSub, reduceCtorEq, reduceIte, Int.reduceToNat, beq_self_eq_true, Bool.and_self]
    refine ⟨⟨by omega, by omega⟩, ?_⟩
    generalize s.getD i 0 = c at j5 j6
    rw [walkJ_step] at j5 j6
    have hvi := hvi c
    refine hNi _ (VWp.keep [0,1,5,6,7,8,10,11] [1000000] ?_); simp only [go_sem, Int.reduceEq, Int.reduceNe, Int.reduceLT, Int.reduceLE, Nat.reduceEqDiff, Nat.reduceAdd, Nat.reduceMul, Nat.reduceLT, Nat.reduceLeDiff, Nat.reduceSub, reduceCtorEq, reduceIte, Int.reduceToNat, beq_self_eq_true, Bool.and_self]
    refine vwp_seq_k fun Nj hNj => ?_
    have e39 : decide (((c.toNat : Nat) : Int) = (39 : Int)) = (c == 39) := u8eq 39 c
    have e40 : decide (((c.toNat : Nat) : Int) = (40 : Int)) = (c == 40) := u8eq 40 c
    have e41 : decide (((c.toNat : Nat) : Int) = (41 : Int)) = (c == 41) := u8eq 41 c
    refine vwp_seq_k fun Nk hNk => vreg tt_ok hF rfl ?_; simp only [go_sem, Int.reduceEq, Int.reduceNe, Int.reduceLT, Int.reduceLE, Nat.reduceEqDiff, Nat.reduceAdd, Nat.reduceMul, Nat.reduceLT, Nat.reduceLeDiff, Nat.reduceSub, reduceCtorEq, reduceIte, Int.reduceToNat, beq_self_eq_true, Bool.and_self, e39]
    refine hNk _ (VWp.keep [0,1,5,6,7,8,10,11,18] [1000000] ?_); simp only [go_sem, Int.reduceEq, Int.reduceNe, Int.reduceLT, Int.reduceLE, Nat.reduceEqDiff, Nat.reduceAdd, Nat.reduceMul, Nat.reduceLT, Nat.reduceLeDiff, Nat.reduceSub, reduceCtorEq, reduceIte, Int.reduceToNat, beq_self_eq_true, Bool.and_self]
    refine vif rfl ⟨fun ht => ?_, fun hf => ?_⟩
    · rw [if_pos ht] at j5 j6
      refine vwp_seq_k fun Nl hNl => vreg tt_ok hF rfl ?_; simp only [go_sem, Int.reduceEq, Int.reduceNe, Int.reduceLT, Int.reduceLE, Nat.reduceEqDiff, Nat.reduceAdd, Nat.reduceMul, Nat.reduceLT, Nat.reduceLeDiff, Nat.reduceSub, reduceCtorEq, reduceIte, Int.reduceToNat, beq_self_eq_true, Bool.and_self]
      refine hNl _ (VWp.keep [0,1,5,6,10,11] [1000000] ?_); simp only [go_sem, Int.reduceEq, Int.reduceNe, Int.reduceLT, Int.reduceLE, Nat.reduceEqDiff, Nat.reduceAdd, Nat.reduceMul, Nat.reduceLT, Nat.reduceLeDiff, Nat.reduceSub, reduceCtorEq, reduceIte, Int.reduceToNat, beq_self_eq_true, Bool.and_self]
      refine vwp_exit ?_
      simp only [go_sem, Int.reduceEq, Int.reduceNe, Int.reduceLT, Int.reduceLE, Nat.reduceEqDiff, Nat.reduceAdd, Nat.reduceMul, Nat.reduceLT, Nat.reduceLeDiff, Nat.reduceSub, reduceCtorEq, reduceIte, Int.reduceToNat, beq_self_eq_true, Bool.and_self]
      refine hNg _ (VWp.keep [0,1,5,6,10,11] [1000000] ?_); simp only [go_sem, Int.reduceEq, Int.reduceNe, Int.reduceLT, Int.reduceLE, Nat.reduceEqDiff, Nat.reduceAdd, Nat.reduceMul, Nat.reduceLT, Nat.reduceLeDiff, Nat.reduceSub, reduceCtorEq, reduceIte, Int.reduceToNat, beq_self_eq_true, Bool.and_self]
      refine vreg tt_ok hF rfl ?_; simp only [go_sem, Int.reduceEq, Int.reduceNe, Int.reduceLT, Int.reduceLE, Nat.reduceEqDiff, Nat.reduceAdd, Nat.reduceMul, Nat.reduceLT, Nat.reduceLeDiff, Nat.reduceSub, reduceCtorEq, reduceIte, Int.reduceToNat, beq_self_eq_true, Bool.and_self]
      rw [wrap_i64 (by omega) (by omega)]
      exact ⟨(i + 1, d, !q, σ), hnext d (!q) σ j2 (by omega) (Im σ i j4) j5 j6, by simp only; omega, by simp⟩
    · rw [if_neg (by rw [hf]; simp)] at j5 j6
      refine vwp_skip (hNj _ ?_)
      refine vwp_seq_k fun Nm hNm => ?_
      refine vwp_seq_k fun Nn hNn => vreg tt_ok hF rfl ?_; simp only [go_sem, Int.reduceEq, Int.reduceNe, Int.reduceLT, Int.reduceLE, Nat.reduceEqDiff, Nat.reduceAdd, Nat.reduceMul, Nat.reduceLT, Nat.reduceLeDiff, Nat.reduceSub, reduceCtorEq, reduceIte, Int.reduceToNat, beq_self_eq_true, Bool.and_self]
      refine hNn _ (VWp.keep [0,1,5,6,7,8,10,11,21] [1000000] ?_); simp only [go_sem, Int.reduceEq, Int.reduceNe, Int.reduceLT, Int.reduceLE, Nat.reduceEqDiff, Nat.reduceAdd, Nat.reduceMul, Nat.reduceLT, Nat.reduceLeDiff, Nat.reduceSub, reduceCtorEq, reduceIte, Int.reduceToNat, beq_self_eq_true, Bool.and_self]
      refine vif rfl ⟨fun ht => ?_, fun hf => ?_⟩
      · rw [if_pos ht] at j5 j6
        refine vwp_exit ?_
        simp only [go_sem, Int.reduceEq, Int.reduceNe, Int.reduceLT, Int.reduceLE, Nat.reduceEqDiff, Nat.reduceAdd, Nat.reduceMul, Nat.reduceLT, Nat.reduceLeDiff, Nat.reduceSub, reduceCtorEq, reduceIte, Int.reduceToNat, beq_self_eq_true, Bool.and_self]
        refine hNg _ (VWp.keep [0,1,5,6,10,11] [1000000] ?_); simp only [go_sem, Int.reduceEq, Int.reduceNe, Int.reduceLT, Int.reduceLE, Nat.reduceEqDiff, Nat.reduceAdd, Nat.reduceMul, Nat.reduceLT, Nat.reduceLeDiff, Nat.reduceSub, reduceCtorEq, reduceIte, Int.reduceToNat, beq_self_eq_true, Bool.and_self]
        refine vreg tt_ok hF rfl ?_; simp only [go_sem, Int.reduceEq, Int.reduceNe, Int.reduceLT, Int.reduceLE, Nat.reduceEqDiff, Nat.reduceAdd, Nat.reduceMul, Nat.reduceLT, Nat.reduceLeDiff, Nat.reduceSub, reduceCtorEq, reduceIte, Int.reduceToNat, beq_self_eq_true, Bool.and_self]
        rw [wrap_i64 (by omega) (by omega)]
        exact ⟨(i + 1, d, q, σ), hnext d q σ j2 (by omega) (Im σ i j4) j5 j6, by simp only; omega, by simp⟩
      · rw [if_neg (by rw [hf]; simp)] at j5 j6
        refine vwp_skip (hNm _ ?_)
        refine vmeet (fun _ : Unit => [(0, .str s), (1, .fn (.func vf) [.ptr 1000000 0]), (5, .int .i64 (dnJ c d)), (6, .bool q), (7, .int .i64 (i : Int)), (8, .int .u8 ((c.toNat : Nat) : Int)), (10, .int .i64 (s.length : Int)), (11, .int .i64 (i : Int))]) (fun _ => [(1000000, .box 4 [.bool σ])]) (fun _ => True) ?_ ?_
        · refine vwp_seq_k fun Np hNp => vreg tt_ok hF rfl ?_; simp only [go_sem, Int.reduceEq, Int.reduceNe, Int.reduceLT, Int.reduceLE, Nat.reduceEqDiff, Nat.reduceAdd, Nat.reduceMul, Nat.reduceLT, Nat.reduceLeDiff, Nat.reduceSub, reduceCtorEq, reduceIte, Int.reduceToNat, beq_self_eq_true, Bool.and_self, e41]
          refine hNp _ (VWp.keep [0,1,5,6,7,8,10,11,23] [1000000] ?_); simp only [go_sem, Int.reduceEq, Int.reduceNe, Int.reduceLT, Int.reduceLE, Nat.reduceEqDiff, Nat.reduceAdd, Nat.reduceMul, Nat.reduceLT, Nat.reduceLeDiff, Nat.reduceSub, reduceCtorEq, reduceIte, Int.reduceToNat, beq_self_eq_true, Bool.and_self]
          refine vif rfl ⟨fun ht => ?_, fun hf => ?_⟩
          · refine vreg tt_ok hF rfl ?_; simp only [go_sem, Int.reduceEq, Int.reduceNe, Int.reduceLT, Int.reduceLE, Nat.reduceEqDiff, Nat.reduceAdd, Nat.reduceMul, Nat.reduceLT, Nat.reduceLeDiff, Nat.reduceSub, reduceCtorEq, reduceIte, Int.reduceToNat, beq_self_eq_true, Bool.and_self]
            rw [wrap_i64 (by omega) (by omega)]
            exact ⟨(), by simp [dnJ, ht]⟩
          · refine vwp_skip ?_
            simp only [go_sem, Int.reduceEq, Int.reduceNe, Int.reduceLT, Int.reduceLE, Nat.reduceEqDiff, Nat.reduceAdd, Nat.reduceMul, Nat.reduceLT, Nat.reduceLeDiff, Nat.reduceSub, reduceCtorEq, reduceIte, Int.reduceToNat, beq_self_eq_true, Bool.and_self]
            exact ⟨(), by simp [dnJ, hf]⟩
        intro _ _
        have hd1 : dnJ c d ≤ d ∧ d - 1 ≤ dnJ c d := by unfold dnJ; split <;> omega
        have hu1 : upJ c (dnJ c d) = (if c == 40 then dnJ c d + 1 else dnJ c d) := rfl
        generalize upJ c (dnJ c d) = d3 at j5 j6 hu1
        generalize dnJ c d = d2 at j5 j6 hd1 hvi hu1
        refine vwp_seq_k fun Nq hNq => ?_
        refine vwp_seq_k fun Nr hNr => vreg tt_ok hF rfl ?_; simp only [go_sem, Int.reduceEq, Int.reduceNe, Int.reduceLT, Int.reduceLE, Nat.reduceEqDiff, Nat.reduceAdd, Nat.reduceMul, Nat.reduceLT, Nat.reduceLeDiff, Nat.reduceSub, reduceCtorEq, reduceIte, Int.reduceToNat, beq_self_eq_true, Bool.and_self]
        refine hNr _ (VWp.keep [0,1,5,6,7,8,10,11,27] [1000000] ?_); simp only [go_sem, Int.reduceEq, Int.reduceNe, Int.reduceLT, Int.reduceLE, Nat.reduceEqDiff, Nat.reduceAdd, Nat.reduceMul, Nat.reduceLT, Nat.reduceLeDiff, Nat.reduceSub, reduceCtorEq, reduceIte, Int.reduceToNat, beq_self_eq_true, Bool.and_self]
        refine vif rfl ⟨fun ht => ?_, fun hf => ?_⟩
        · rw [if_pos (of_decide_eq_true ht)] at j5 j6
          refine vwp_seq_k fun Ns hNs => vreg tt_ok hF rfl ?_; simp only [go_sem, Int.reduceEq, Int.reduceNe, Int.reduceLT, Int.reduceLE, Nat.reduceEqDiff, Nat.reduceAdd, Nat.reduceMul, Nat.reduceLT, Nat.reduceLeDiff, Nat.reduceSub, reduceCtorEq, reduceIte, Int.reduceToNat, beq_self_eq_true, Bool.and_self]
          refine hNs _ (VWp.keep [4] [1000000] ?_); simp only [go_sem, Int.reduceEq, Int.reduceNe, Int.reduceLT, Int.reduceLE, Nat.reduceEqDiff, Nat.reduceAdd, Nat.reduceMul, Nat.reduceLT, Nat.reduceLeDiff, Nat.reduceSub, reduceCtorEq, reduceIte, Int.reduceToNat, beq_self_eq_true, Bool.and_self]
          refine vwp_ret ?_
          simp only [go_sem, Int.reduceEq, Int.reduceNe, Int.reduceLT, Int.reduceLE, Nat.reduceEqDiff, Nat.reduceAdd, Nat.reduceMul, Nat.reduceLT, Nat.reduceLeDiff, Nat.reduceSub, reduceCtorEq, reduceIte, Int.reduceToNat, beq_self_eq_true, Bool.and_self]
          have j5 : σ = R := j5
          have j6 : false = B := j6
          subst j5 j6
          first | exact LeV.refl _ | exact ⟨LeV.refl _, rfl⟩ | exact ⟨LeV.refl _, rfl, rfl⟩ | exact ⟨LeV.refl _, rfl, rfl, rfl⟩
        · have hge := of_decide_eq_false hf
          rw [if_neg hge] at j5 j6
          have hvi := hvi (by omega) (by omega) j4
          refine vwp_skip (hNq _ ?_)
          refine vwp_seq_k fun Nt hNt => vreg tt_ok hF rfl ?_; simp only [go_sem, Int.reduceEq, Int.reduceNe, Int.reduceLT, Int.reduceLE, Nat.reduceEqDiff, Nat.reduceAdd, Nat.reduceMul, Nat.reduceLT, Nat.reduceLeDiff, Nat.reduceSub, reduceCtorEq, reduceIte, Int.reduceToNat, beq_self_eq_true, Bool.and_self]
          refine .inr (bxo [(1000000, 1000000)] rfl ?_); simp only [go_sem, Int.reduceEq, Int.reduceNe, Int.reduceLT, Int.reduceLE, Nat.reduceEqDiff, Nat.reduceAdd, Nat.reduceMul, Nat.reduceLT, Nat.reduceLeDiff, Nat.reduceSub, reduceCtorEq, reduceIte, Int.reduceToNat, beq_self_eq_true, Bool.and_self]; refine ⟨_, _, hvi, ?_⟩; try simp only [go_sem, Int.reduceEq, Int.reduceNe, Int.reduceLT, Int.reduceLE, Nat.reduceEqDiff, Nat.reduceAdd, Nat.reduceMul, Nat.reduceLT, Nat.reduceLeDiff, Nat.reduceSub, reduceCtorEq, reduceIte, Int.reduceToNat, beq_self_eq_true, Bool.and_self]
          refine hNt _ (VWp.keep [0,1,5,6,8,10,11] [1000000] ?_); simp only [go_sem, Int.reduceEq, Int.reduceNe, Int.reduceLT, Int.reduceLE, Nat.reduceEqDiff, Nat.reduceAdd, Nat.reduceMul, Nat.reduceLT, Nat.reduceLeDiff, Nat.reduceSub, reduceCtorEq, reduceIte, Int.reduceToNat, beq_self_eq_true, Bool.and_self]
          have j5 : (walkJ (s.drop (i + 1)) (i + 1) d3 q).1.foldl f (f σ (i, c, d2)) = R := j5
          have j6 : (walkJ (s.drop (i + 1)) (i + 1) d3 q).2 = B := j6
          have hIv := Iv σ i c d2 j4
          generalize f σ (i, c, d2) = σ2 at j5 hIv
          refine vwp_seq_k fun Nu hNu => vreg tt_ok hF rfl ?_; simp only [go_sem, Int.reduceEq, Int.reduceNe, Int.reduceLT, Int.reduceLE, Nat.reduceEqDiff, Nat.reduceAdd, Nat.reduceMul, Nat.reduceLT, Nat.reduceLeDiff, Nat.reduceSub, reduceCtorEq, reduceIte, Int.reduceToNat, beq_self_eq_true, Bool.and_self, e40]
          refine hNu _ (VWp.keep [0,1,5,6,10,11,34] [1000000] ?_); simp only [go_sem, Int.reduceEq, Int.reduceNe, Int.reduceLT, Int.reduceLE, Nat.reduceEqDiff, Nat.reduceAdd, Nat.reduceMul, Nat.reduceLT, Nat.reduceLeDiff, Nat.reduceSub, reduceCtorEq, reduceIte, Int.reduceToNat, beq_self_eq_true, Bool.and_self]
          refine vif rfl ⟨fun ht => ?_, fun hf => ?_⟩
          · rw [ht, if_pos rfl] at hu1
            refine vreg tt_ok hF rfl ?_; simp only [go_sem, Int.reduceEq, Int.reduceNe, Int.reduceLT, Int.reduceLE, Nat.reduceEqDiff, Nat.reduceAdd, Nat.reduceMul, Nat.reduceLT, Nat.reduceLeDiff, Nat.reduceSub, reduceCtorEq, reduceIte, Int.reduceToNat, beq_self_eq_true, Bool.and_self]
            rw [wrap_i64 (by omega) (by omega), ← hu1]
            refine hNg _ (VWp.keep [0,1,5,6,10,11] [1000000] ?_); simp only [go_sem, Int.reduceEq, Int.reduceNe, Int.reduceLT, Int.reduceLE, Nat.reduceEqDiff, Nat.reduceAdd, Nat.reduceMul, Nat.reduceLT, Nat.reduceLeDiff, Nat.reduceSub, reduceCtorEq, reduceIte, Int.reduceToNat, beq_self_eq_true, Bool.and_self]
            refine vreg tt_ok hF rfl ?_; simp only [go_sem, Int.reduceEq, Int.reduceNe, Int.reduceLT, Int.reduceLE, Nat.reduceEqDiff, Nat.reduceAdd, Nat.reduceMul, Nat.reduceLT, Nat.reduceLeDiff, Nat.reduceSub, reduceCtorEq, reduceIte, Int.reduceToNat, beq_self_eq_true, Bool.and_self]
            rw [wrap_i64 (by omega) (by omega)]
            exact ⟨(i + 1, d3, q, σ2), hnext d3 q σ2 (by omega) (by omega) hIv j5 j6, by simp only; omega, by simp⟩
          · rw [hf, if_neg (by decide)] at hu1
            rw [← hu1]
            refine vwp_skip (hNg _ ?_)
            refine VWp.keep [0,1,5,6,10,11] [1000000] ?_; simp only [go_sem, Int.reduceEq, Int.reduceNe, Int.reduceLT, Int.reduceLE, Nat.reduceEqDiff, Nat.reduceAdd, Nat.reduceMul, Nat.reduceLT, Nat.reduceLeDiff, Nat.reduceSub, reduceCtorEq, reduceIte, Int.reduceToNat, beq_self_eq_true, Bool.and_self]
            refine vreg tt_ok hF rfl ?_; simp only [go_sem, Int.reduceEq, Int.reduceNe, Int.reduceLT, Int.reduceLE, Nat.reduceEqDiff, Nat.reduceAdd, Nat.reduceMul, Nat.reduceLT, Nat.reduceLeDiff, Nat.reduceSub, reduceCtorEq, reduceIte, Int.reduceToNat, beq_self_eq_true, Bool.and_self]
            rw [wrap_i64 (by omega) (by omega)]
            exact ⟨(i + 1, d3, q, σ2), hnext d3 q σ2 (by omega) (by omega) hIv j5 j6, by simp only; omega, by simp⟩
  · have hi2 : i = s.length := by have := of_decide_eq_false hf; omega
    subst hi2
    rw [List.drop_length] at j5 j6
    have j5 : σ = R := j5
    have j6 : (d == 0 && !q) = B := j6
    subst j5
    refine vwp_exit ?_
    simp only [go_sem, Int.reduceEq, Int.reduceNe, Int.reduceLT, Int.reduceLE, Nat.reduceEqDiff, Nat.reduceAdd, Nat.reduceMul, Nat.reduceLT, Nat.reduceLeDiff, Nat.reduceSub, reduceCtorEq, reduceIte, Int.reduceToNat, beq_self_eq_true, Bool.and_self]
    refine hNc _ (VWp.keep [5,6] [1000000] ?_); simp only [go_sem, Int.reduceEq, Int.reduceNe, Int.reduceLT, Int.reduceLE, Nat.reduceEqDiff, Nat.reduceAdd, Nat.reduceMul, Nat.reduceLT, Nat.reduceLeDiff, Nat.reduceSub, reduceCtorEq, reduceIte, Int.reduceToNat, beq_self_eq_true, Bool.and_self]
    have e0 : decide (d = (0 : Int)) = (d == 0) := by by_cases h : d = 0 <;> simp [h]
    generalize (d == 0) = b0 at e0 j6
    cases b0
    all_goals
      refine vwp_seq_k fun Nv hNv => vreg tt_ok hF rfl ?_; simp only [go_sem, Int.reduceEq, Int.reduceNe, Int.reduceLT, Int.reduceLE, Nat.reduceEqDiff, Nat.reduceAdd, Nat.reduceMul, Nat.reduceLT, Nat.reduceLeDiff, Nat.reduceSub, reduceCtorEq, reduceIte, Int.reduceToNat, beq_self_eq_true, Bool.and_self, e0]
      refine hNv _ (VWp.keep [4] [1000000] ?_); simp only [go_sem, Int.reduceEq, Int.reduceNe, Int.reduceLT, Int.reduceLE, Nat.reduceEqDiff, Nat.reduceAdd, Nat.reduceMul, Nat.reduceLT, Nat.reduceLeDiff, Nat.reduceSub, reduceCtorEq, reduceIte, Int.reduceToNat, beq_self_eq_true, Bool.and_self]
      refine vwp_ret ?_
      simp only [go_sem, Int.reduceEq, Int.reduceNe, Int.reduceLT, Int.reduceLE, Nat.reduceEqDiff, Nat.reduceAdd, Nat.reduceMul, Nat.reduceLT, Nat.reduceLeDiff, Nat.reduceSub, reduceCtorEq, reduceIte, Int.reduceToNat, beq_self_eq_true, Bool.and_self]
      rw [← j6]
      first | exact LeV.refl _ | exact ⟨LeV.refl _, rfl⟩ | exact ⟨LeV.refl _, rfl, rfl⟩ | exact ⟨LeV.refl _, rfl, rfl, rfl⟩
set_option maxHeartbeats 16000000 in
set_option maxRecDepth 4000 in
theorem walk_i (vf : FuncId) (f : Int → Nat × UInt8 × Int → Int) (Inv : Int → Nat → Prop) (s : Jb) (hs : s.length ≤ 1000000000) (st : Int) (I0 : Inv st 0) (Im : ∀ σ i, Inv σ i → Inv σ (i + 1)) (Iv : ∀ σ i c d, Inv σ i → Inv (f σ (i, c, d)) (i + 1))
    (hv : ∀ (σ : Int) (i : Nat) (c : UInt8) (d : Int), i < s.length → 0 ≤ d → d ≤ 1000000000 → Inv σ i → SpecB Tryz.prog vf [.int .i64 (i : Int), .int .u8 ((c.toNat : Nat) : Int), .int .i64 d, .ptr 1000000 0] [(1000000, .box 3 [.int .i64 σ])] (.tup []) [(1000000, .box 3 [.int .i64 (f σ (i, c, d))])]) :
    SpecB Tryz.prog 39 [.str s, .fn (.func vf) [.ptr 1000000 0]] [(1000000, .box 3 [.int .i64 st])] (.bool (balJ s)) [(1000000, .box 3 [.int .i64 ((visJ s).foldl f st)])] := by
  obtain ⟨R, hR⟩ : ∃ R, (visJ s).foldl f st = R := ⟨_, rfl⟩
  obtain ⟨B, hB⟩ : ∃ B, balJ s = B := ⟨_, rfl⟩
  rw [hR, hB]
  refine specB_of tt_ok Tryz.func39 rfl (by decide) Tryz.ntmps39 (congrArg Array.toList Tryz.results39) (by simp) (by decide) rfl (by simp only [go_sem, Int.reduceEq, Int.reduceNe, Int.reduceLT, Int.reduceLE, Nat.reduceEqDiff, Nat.reduceAdd, Nat.reduceMul, Nat.reduceLT, Nat.reduceLeDiff, Nat.reduceSub, reduceCtorEq, reduceIte, Int.reduceToNat, beq_self_eq_true, Bool.and_self]) (fun F hF => ?_)
  refine vwp_seq_k fun Na hNa => vreg tt_ok hF rfl ?_; simp only [go_sem, Int.reduceEq, Int.reduceNe, Int.reduceLT, Int.reduceLE, Nat.reduceEqDiff, Nat.reduceAdd, Nat.reduceMul, Nat.reduceLT, Nat.reduceLeDiff, Nat.reduceSub, reduceCtorEq, reduceIte, Int.reduceToNat, beq_self_eq_true, Bool.and_self]
  refine hNa _ (VWp.keepR [0,1] [1000000] tt_ok hF rfl fun Nb hNb => ?_); simp only [go_sem, Int.reduceEq, Int.reduceNe, Int.reduceLT, Int.reduceLE, Nat.reduceEqDiff, Nat.reduceAdd, Nat.reduceMul, Nat.reduceLT, Nat.reduceLeDiff, Nat.reduceSub, reduceCtorEq, reduceIte, Int.reduceToNat, beq_self_eq_true, Bool.and_self]
  refine hNb _ (VWp.keep [0,1,5,6] [1000000] ?_); simp only [go_sem, Int.reduceEq, Int.reduceNe, Int.reduceLT, Int.reduceLE, Nat.reduceEqDiff, Nat.reduceAdd, Nat.reduceMul, Nat.reduceLT, Nat.reduceLeDiff, Nat.reduceSub, reduceCtorEq, reduceIte, Int.reduceToNat, beq_self_eq_true, Bool.and_self]
  refine vwp_seq_k fun Nc hNc => ?_
  refine vwp_seq_k fun Nd hNd => vreg tt_ok hF rfl ?_; simp only [go_sem, Int.reduceEq, Int.reduceNe, Int.reduceLT, Int.reduceLE, Nat.reduceEqDiff, Nat.reduceAdd, Nat.reduceMul, Nat.reduceLT, Nat.reduceLeDiff, Nat.reduceSub, reduceCtorEq, reduceIte, Int.reduceToNat, beq_self_eq_true, Bool.and_self]
  refine hNd _ (VWp.keep [0,1,5,6,10,11] [1000000] ?_); simp only [go_sem, Int.reduceEq, Int.reduceNe, Int.reduceLT, Int.reduceLE, Nat.reduceEqDiff, Nat.reduceAdd, Nat.reduceMul, Nat.reduceLT, Nat.reduceLeDiff, Nat.reduceSub, reduceCtorEq, reduceIte, Int.reduceToNat, beq_self_eq_true, Bool.and_self]
  refine vwp_block (vloop (fun z : Nat × Int × Bool × Int => [(0, .str s), (1, .fn (.func vf) [.ptr 1000000 0]), (5, .int .i64 z.2.1), (6, .bool z.2.2.1), (10, .int .i64 (s.length : Int)), (11, .int .i64 (z.1 : Int))]) (fun z => [(1000000, .box 3 [.int .i64 z.2.2.2])])
    (fun z => z.1 ≤ s.length ∧ 0 ≤ z.2.1 ∧ z.2.1 ≤ z.1 ∧ Inv z.2.2.2 z.1 ∧ (walkJ (s.drop z.1) z.1 z.2.1 z.2.2.1).1.foldl f z.2.2.2 = R ∧ (walkJ (s.drop z.1) z.1 z.2.1 z.2.2.1).2 = B) (fun z => s.length - z.1) (0, 0, false, st)
    ⟨by simp, by simp, by simp, I0, hR, hB⟩ (by simp only [go_sem, Int.reduceEq, Int.reduceNe, Int.reduceLT, Int.reduceLE, Nat.reduceEqDiff, Nat.reduceAdd, Nat.reduceMul, Nat.reduceLT, Nat.reduceLeDiff, Nat.reduceSub, reduceCtorEq, reduceIte, Int.reduceToNat, beq_self_eq_true, Bool.and_self]) ?_)
  rintro ⟨i, d, q, σ⟩ ⟨j1, j2, j3, j4, j5, j6⟩
  have j1 : i ≤ s.length := j1
  have j2 : 0 ≤ d := j2
  have j3 : d ≤ i := j3
  have j4 : Inv σ i := j4
  have j5 : (walkJ (s.drop i) i d q).1.foldl f σ = R := j5
  have j6 : (walkJ (s.drop i) i d q).2 = B := j6
  try dsimp only
  refine vwp_seq_k fun Ne hNe => vreg tt_ok hF rfl ?_; simp only [go_sem, Int.reduceEq, Int.reduceNe, Int.reduceLT, Int.reduceLE, Nat.reduceEqDiff, Nat.reduceAdd, Nat.reduceMul, Nat.reduceLT, Nat.reduceLeDiff, Nat.reduceSub, reduceCtorEq, reduceIte, Int.reduceToNat, beq_self_eq_true, Bool.and_self]
  refine hNe _ (VWp.keep [0,1,5,6,10,11,12] [1000000] ?_); simp only [go_sem, Int.reduceEq, Int.reduceNe, Int.reduceLT, Int.reduceLE, Nat.reduceEqDiff, Nat.reduceAdd, Nat.reduceMul, Nat.reduceLT, Nat.reduceLeDiff, Nat.reduceSub, reduceCtorEq, reduceIte, Int.reduceToNat, beq_self_eq_true, Bool.and_self]
  refine vwp_seq_k fun Nf hNf => ?_
  refine vif rfl ⟨fun ht => ?_, fun hf => ?_⟩
  · have hlt : i < s.length := by have := of_decide_eq_true ht; omega
    have hvi := fun c => hv σ i c (dnJ c d) hlt
    rw [drop_at s i hlt] at j5 j6
    have hnext := fun (d' : Int) (q' : Bool) (σ' : Int) (k2 : 0 ≤ d') (k3 : d' ≤ i + 1) (k4 : Inv σ' (i + 1)) (k5 : (walkJ (s.drop (i + 1)) (i + 1) d' q').1.foldl f σ' = R) (k6 : (walkJ (s.drop (i + 1)) (i + 1) d' q').2 = B) =>
      (⟨by omega, k2, by push_cast; omega, k4, k5, k6⟩ : i + 1 ≤ s.length ∧ 0 ≤ d' ∧ d' ≤ ((i + 1 : Nat) : Int) ∧ Inv σ' (i + 1) ∧ (walkJ (s.drop (i + 1)) (i + 1) d' q').1.foldl f σ' = R ∧ (walkJ (s.drop (i + 1)) (i + 1) d' q').2 = B)
    refine vwp_skip (hNf _ ?_)
    refine vwp_seq_k fun Ng hNg => ?_
    refine vwp_block ?_
    refine vwp_seq_k fun Nh hNh => vreg tt_ok hF rfl ?_; simp only [go_sem, Int.reduceEq, Int.reduceNe, Int.reduceLT, Int.reduceLE, Nat.reduceEqDiff, Nat.reduceAdd, Nat.reduceMul, Nat.reduceLT, Nat.reduceLeDiff, Nat.reduceSub, reduceCtorEq, reduceIte, Int.reduceToNat, beq_self_eq_true, Bool.and_self]
    refine hNh _ (VWp.keepR [0,1,5,6,7,10,11] [1000000] tt_ok hF rfl fun Ni hNi => ?_); simp only [go_sem, Int.reduceEq, Int.reduceNe, Int.reduceLT, Int.reduceLE, Nat.reduceEqDiff, Nat.reduceAdd, Nat.reduceMul, Nat.reduceLT, Nat.reduceLeDiff, Nat.reduceSub, reduceCtorEq, reduceIte, Int.reduceToNat, beq_self_eq_true, Bool.and_self]
    refine ⟨⟨by omega, by omega⟩, ?_⟩
    generalize s.getD i 0 = c at j5 j6
    rw [walkJ_step] at j5 j6
    have hvi := hvi c
    refine hNi _ (VWp.keep [0,1,5,6,7,8,10,11] [1000000] ?_); simp only [go_sem, Int.reduceEq, Int.reduceNe, Int.reduceLT, Int.reduceLE, Nat.reduceEqDiff, Nat.reduceAdd, Nat.reduceMul, Nat.reduceLT, Nat.reduceLeDiff, Nat.reduceSub, reduceCtorEq, reduceIte, Int.reduceToNat, beq_self_eq_true, Bool.and_self]
    refine vwp_seq_k fun Nj hNj => ?_
    have e39 : decide (((c.toNat : Nat) : Int) = (39 : Int)) = (c == 39) := u8eq 39 c
    have e40 : decide (((c.toNat : Nat) : Int) = (40 : Int)) = (c == 40) := u8eq 40 c
    have e41 : decide (((c.toNat : Nat) : Int) = (41 : Int)) = (c == 41) := u8eq 41 c
    refine vwp_seq_k fun Nk hNk => vreg tt_ok hF rfl ?_; simp only [go_sem, Int.reduceEq, Int.reduceNe, Int.reduceLT, Int.reduceLE, Nat.reduceEqDiff, Nat.reduceAdd, Nat.reduceMul, Nat.reduceLT, Nat.reduceLeDiff, Nat.reduceSub, reduceCtorEq, reduceIte, Int.reduceToNat, beq_self_eq_true, Bool.and_self, e39]
    refine hNk _ (VWp.keep [0,1,5,6,7,8,10,11,18] [1000000] ?_); simp only [go_sem, Int.reduceEq, Int.reduceNe, Int.reduceLT, Int.reduceLE, Nat.reduceEqDiff, Nat.reduceAdd, Nat.reduceMul, Nat.reduceLT, Nat.reduceLeDiff, Nat.reduceSub, reduceCtorEq, reduceIte, Int.reduceToNat, beq_self_eq_true, Bool.and_self]
    refine vif rfl ⟨fun ht => ?_, fun hf => ?_⟩
    · rw [if_pos ht] at j5 j6
      refine vwp_seq_k fun Nl hNl => vreg tt_ok hF rfl ?_; simp only [go_sem, Int.reduceEq, Int.reduceNe, Int.reduceLT, Int.reduceLE, Nat.reduceEqDiff, Nat.reduceAdd, Nat.reduceMul, Nat.reduceLT, Nat.reduceLeDiff, Nat.reduceSub, reduceCtorEq, reduceIte, Int.reduceToNat, beq_self_eq_true, Bool.and_self]
      refine hNl _ (VWp.keep [0,1,5,6,10,11] [1000000] ?_); simp only [go_sem, Int.reduceEq, Int.reduceNe, Int.reduceLT, Int.reduceLE, Nat.reduceEqDiff, Nat.reduceAdd, Nat.reduceMul, Nat.reduceLT, Nat.reduceLeDiff, Nat.reduceSub, reduceCtorEq, reduceIte, Int.reduceToNat, beq_self_eq_true, Bool.and_self]
      refine vwp_exit ?_
      simp only [go_sem, Int.reduceEq, Int.reduceNe, Int.reduceLT, Int.reduceLE, Nat.reduceEqDiff, Nat.reduceAdd, Nat.reduceMul, Nat.reduceLT, Nat.reduceLeDiff, Nat.reduceSub, reduceCtorEq, reduceIte, Int.reduceToNat, beq_self_eq_true, Bool.and_self]
      refine hNg _ (VWp.keep [0,1,5,6,10,11] [1000000] ?_); simp only [go_sem, Int.reduceEq, Int.reduceNe, Int.reduceLT, Int.reduceLE, Nat.reduceEqDiff, Nat.reduceAdd, Nat.reduceMul, Nat.reduceLT, Nat.reduceLeDiff, Nat.reduceSub, reduceCtorEq, reduceIte, Int.reduceToNat, beq_self_eq_true, Bool.and_self]
      refine vreg tt_ok hF rfl ?_; simp only [go_sem, Int.reduceEq, Int.reduceNe, Int.reduceLT, Int.reduceLE, Nat.reduceEqDiff, Nat.reduceAdd, Nat.reduceMul, Nat.reduceLT, Nat.reduceLeDiff, Nat.reduceSub, reduceCtorEq, reduceIte, Int.reduceToNat, beq_self_eq_true, Bool.and_self]
      rw [wrap_i64 (by omega) (by omega)]
      exact ⟨(i + 1, d, !q, σ), hnext d (!q) σ j2 (by omega) (Im σ i j4) j5 j6, by simp only; omega, by simp⟩
    · rw [if_neg (by rw [hf]; simp)] at j5 j6
      refine vwp_skip (hNj _ ?_)
      refine vwp_seq_k fun Nm hNm => ?_
      refine vwp_seq_k fun Nn hNn => vreg tt_ok hF rfl ?_; simp only [go_sem, Int.reduceEq, Int.reduceNe, Int.reduceLT, Int.reduceLE, Nat.reduceEqDiff, Nat.reduceAdd, Nat.reduceMul, Nat.reduceLT, Nat.reduceLeDiff, Nat.reduceSub, reduceCtorEq, reduceIte, Int.reduceToNat, beq_self_eq_true, Bool.and_self]
      refine hNn _ (VWp.keep [0,1,5,6,7,8,10,11,21] [1000000] ?_); simp only [go_sem, Int.reduceEq, Int.reduceNe, Int.reduceLT, Int.reduceLE, Nat.reduceEqDiff, Nat.reduceAdd, Nat.reduceMul, Nat.reduceLT, Nat.reduceLeDiff, Nat.reduceSub, reduceCtorEq, reduceIte, Int.reduceToNat, beq_self_eq_true, Bool.and_self]
      refine vif rfl ⟨fun ht => ?_, fun hf => ?_⟩
      · rw [if_pos ht] at j5 j6
        refine vwp_exit ?_
        simp only [go_sem, Int.reduceEq, Int.reduceNe, Int.reduceLT, Int.reduceLE, Nat.reduceEqDiff, Nat.reduceAdd, Nat.reduceMul, Nat.reduceLT, Nat.reduceLeDiff, Nat.reduceSub, reduceCtorEq, reduceIte, Int.reduceToNat, beq_self_eq_true, Bool.and_self]
        refine hNg _ (VWp.keep [0,1,5,6,10,11] [1000000] ?_); simp only [go_sem, Int.reduceEq, Int.reduceNe, Int.reduceLT, Int.reduceLE, Nat.reduceEqDiff, Nat.reduceAdd, Nat.reduceMul, Nat.reduceLT, Nat.reduceLeDiff, Nat.reduceSub, reduceCtorEq, reduceIte, Int.reduceToNat, beq_self_eq_true, Bool.and_self]
        refine vreg tt_ok hF rfl ?_; simp only [go_sem, Int.reduceEq, Int.reduceNe, Int.reduceLT, Int.reduceLE, Nat.reduceEqDiff, Nat.reduceAdd, Nat.reduceMul, Nat.reduceLT, Nat.reduceLeDiff, Nat.reduceSub, reduceCtorEq, reduceIte, Int.reduceToNat, beq_self_eq_true, Bool.and_self]
        rw [wrap_i64 (by omega) (by omega)]
        exact ⟨(i + 1, d, q, σ), hnext d q σ j2 (by omega) (Im σ i j4) j5 j6, by simp only; omega, by simp⟩
      · rw [if_neg (by rw [hf]; simp)] at j5 j6
        refine vwp_skip (hNm _ ?_)
        refine vmeet (fun _ : Unit => [(0, .str s), (1, .fn (.func vf) [.ptr 1000000 0]), (5, .int .i64 (dnJ c d)), (6, .bool q), (7, .int .i64 (i : Int)), (8, .int .u8 ((c.toNat : Nat) : Int)), (10, .int .i64 (s.length : Int)), (11, .int .i64 (i : Int))]) (fun _ => [(1000000, .box 3 [.int .i64 σ])]) (fun _ => True) ?_ ?_
        · refine vwp_seq_k fun Np hNp => vreg tt_ok hF rfl ?_; simp only [go_sem, Int.reduceEq, Int.reduceNe, Int.reduceLT, Int.reduceLE, Nat.reduceEqDiff, Nat.reduceAdd, Nat.reduceMul, Nat.reduceLT, Nat.reduceLeDiff, Nat.reduceSub, reduceCtorEq, reduceIte, Int.reduceToNat, beq_self_eq_true, Bool.and_self, e41]
          refine hNp _ (VWp.keep [0,1,5,6,7,8,10,11,23] [1000000] ?_); simp only [go_sem, Int.reduceEq, Int.reduceNe, Int.reduceLT, Int.reduceLE, Nat.reduceEqDiff, Nat.reduceAdd, Nat.reduceMul, Nat.reduceLT, Nat.reduceLeDiff, Nat.reduceSub, reduceCtorEq, reduceIte, Int.reduceToNat, beq_self_eq_true, Bool.and_self]
          refine vif rfl ⟨fun ht => ?_, fun hf => ?_⟩
          · refine vreg tt_ok hF rfl ?_; simp only [go_sem, Int.reduceEq, Int.reduceNe, Int.reduceLT, Int.reduceLE, Nat.reduceEqDiff, Nat.reduceAdd, Nat.reduceMul, Nat.reduceLT, Nat.reduceLeDiff, Nat.reduceSub, reduceCtorEq, reduceIte, Int.reduceToNat, beq_self_eq_true, Bool.and_self]
            rw [wrap_i64 (by omega) (by omega)]
            exact ⟨(), by simp [dnJ, ht]⟩
          · refine vwp_skip ?_
            simp only [go_sem, Int.reduceEq, Int.reduceNe, Int.reduceLT, Int.reduceLE, Nat.reduceEqDiff, Nat.reduceAdd, Nat.reduceMul, Nat.reduceLT, Nat.reduceLeDiff, Nat.reduceSub, reduceCtorEq, reduceIte, Int.reduceToNat, beq_self_eq_true, Bool.and_self]
            exact ⟨(), by simp [dnJ, hf]⟩
        intro _ _
        have hd1 : dnJ c d ≤ d ∧ d - 1 ≤ dnJ c d := by unfold dnJ; split <;> omega
        have hu1 : upJ c (dnJ c d) = (if c == 40 then dnJ c d + 1 else dnJ c d) := rfl
        generalize upJ c (dnJ c d) = d3 at j5 j6 hu1
        generalize dnJ c d = d2 at j5 j6 hd1 hvi hu1
        refine vwp_seq_k fun Nq hNq => ?_
        refine vwp_seq_k fun Nr hNr => vreg tt_ok hF rfl ?_; simp only [go_sem, Int.reduceEq, Int.reduceNe, Int.reduceLT, Int.reduceLE, Nat.reduceEqDiff, Nat.reduceAdd, Nat.reduceMul, Nat.reduceLT, Nat.reduceLeDiff, Nat.reduceSub, reduceCtorEq, reduceIte, Int.reduceToNat, beq_self_eq_true, Bool.and_self]
        refine hNr _ (VWp.keep [0,1,5,6,7,8,10,11,27] [1000000] ?_); simp only [go_sem, Int.reduceEq, Int.reduceNe, Int.reduceLT, Int.reduceLE, Nat.reduceEqDiff, Nat.reduceAdd, Nat.reduceMul, Nat.reduceLT, Nat.reduceLeDiff, Nat.reduceSub, reduceCtorEq, reduceIte, Int.reduceToNat, beq_self_eq_true, Bool.and_self]
        refine vif rfl ⟨fun ht => ?_, fun hf => ?_⟩
        · rw [if_pos (of_decide_eq_true ht)] at j5 j6
          refine vwp_seq_k fun Ns hNs => vreg tt_ok hF rfl ?_; simp only [go_sem, Int.reduceEq, Int.reduceNe, Int.reduceLT, Int.reduceLE, Nat.reduceEqDiff, Nat.reduceAdd, Nat.reduceMul, Nat.reduceLT, Nat.reduceLeDiff, Nat.reduceSub, reduceCtorEq, reduceIte, Int.reduceToNat, beq_self_eq_true, Bool.and_self]
          refine hNs _ (VWp.keep [4] [1000000] ?_); simp only [go_sem, Int.reduceEq, Int.reduceNe, Int.reduceLT, Int.reduceLE, Nat.reduceEqDiff, Nat.reduceAdd, Nat.reduceMul, Nat.reduceLT, Nat.reduceLeDiff, Nat.reduceSub, reduceCtorEq, reduceIte, Int.reduceToNat, beq_self_eq_true, Bool.and_self]
          refine vwp_ret ?_
          simp only [go_sem, Int.reduceEq, Int.reduceNe, Int.reduceLT, Int.reduceLE, Nat.reduceEqDiff, Nat.reduceAdd, Nat.reduceMul, Nat.reduceLT, Nat.reduceLeDiff, Nat.reduceSub, reduceCtorEq, reduceIte, Int.reduceToNat, beq_self_eq_true, Bool.and_self]
          have j5 : σ = R := j5
          have j6 : false = B := j6
          subst j5 j6
          first | exact LeV.refl _ | exact ⟨LeV.refl _, rfl⟩ | exact ⟨LeV.refl _, rfl, rfl⟩ | exact ⟨LeV.refl _, rfl, rfl, rfl⟩
        · have hge := of_decide_eq_false hf
          rw [if_neg hge] at j5 j6
          have hvi := hvi (by omega) (by omega) j4
          refine vwp_skip (hNq _ ?_)
          refine vwp_seq_k fun Nt hNt => vreg tt_ok hF rfl ?_; simp only [go_sem, Int.reduceEq, Int.reduceNe, Int.reduceLT, Int.reduceLE, Nat.reduceEqDiff, Nat.reduceAdd, Nat.reduceMul, Nat.reduceLT, Nat.reduceLeDiff, Nat.reduceSub, reduceCtorEq, reduceIte, Int.reduceToNat, beq_self_eq_true, Bool.and_self]
          refine .inr (bxo [(1000000, 1000000)] rfl ?_); simp only [go_sem, Int.reduceEq, Int.reduceNe, Int.reduceLT, Int.reduceLE, Nat.reduceEqDiff, Nat.reduceAdd, Nat.reduceMul, Nat.reduceLT, Nat.reduceLeDiff, Nat.reduceSub, reduceCtorEq, reduceIte, Int.reduceToNat, beq_self_eq_true, Bool.and_self]; refine ⟨_, _, hvi, ?_⟩; try simp only [go_sem, Int.reduceEq, Int.reduceNe, Int.reduceLT, Int.reduceLE, Nat.reduceEqDiff, Nat.reduceAdd, Nat.reduceMul, Nat.reduceLT, Nat.reduceLeDiff, Nat.reduceSub, reduceCtorEq, reduceIte, Int.reduceToNat, beq_self_eq_true, Bool.and_self]
          refine hNt _ (VWp.keep [0,1,5,6,8,10,11] [1000000] ?_); simp only [go_sem, Int.reduceEq, Int.reduceNe, Int.reduceLT, Int.reduceLE, Nat.reduceEqDiff, Nat.reduceAdd, Nat.reduceMul, Nat.reduceLT, Nat.reduceLeDiff, Nat.reduceSub, reduceCtorEq, reduceIte, Int.reduceToNat, beq_self_eq_true, Bool.and_self]
          have j5 : (walkJ (s.drop (i + 1)) (i + 1) d3 q).1.foldl f (f σ (i, c, d2)) = R := j5
          have j6 : (walkJ (s.drop (i + 1)) (i + 1) d3 q).2 = B := j6
          have hIv := Iv σ i c d2 j4
          generalize f σ (i, c, d2) = σ2 at j5 hIv
          refine vwp_seq_k fun Nu hNu => vreg tt_ok hF rfl ?_; simp only [go_sem, Int.reduceEq, Int.reduceNe, Int.reduceLT, Int.reduceLE, Nat.reduceEqDiff, Nat.reduceAdd, Nat.reduceMul, Nat.reduceLT, Nat.reduceLeDiff, Nat.reduceSub, reduceCtorEq, reduceIte, Int.reduceToNat, beq_self_eq_true, Bool.and_self, e40]
          refine hNu _ (VWp.keep [0,1,5,6,10,11,34] [1000000] ?_); simp only [go_sem, Int.reduceEq, Int.reduceNe, Int.reduceLT, Int.reduceLE, Nat.reduceEqDiff, Nat.reduceAdd, Nat.reduceMul, Nat.reduceLT, Nat.reduceLeDiff, Nat.reduceSub, reduceCtorEq, reduceIte, Int.reduceToNat, beq_self_eq_true, Bool.and_self]
          refine vif rfl ⟨fun ht => ?_, fun hf => ?_⟩
          · rw [ht, if_pos rfl] at hu1
            refine vreg tt_ok hF rfl ?_; simp only [go_sem, Int.reduceEq, Int.reduceNe, Int.reduceLT, Int.reduceLE, Nat.reduceEqDiff, Nat.reduceAdd, Nat.reduceMul, Nat.reduceLT, Nat.reduceLeDiff, Nat.reduceSub, reduceCtorEq, reduceIte, Int.reduceToNat, beq_self_eq_true, Bool.and_self]
            rw [wrap_i64 (by omega) (by omega), ← hu1]
            refine hNg _ (VWp.keep [0,1,5,6,10,11] [1000000] ?_); simp only [go_sem, Int.reduceEq, Int.reduceNe, Int.reduceLT, Int.reduceLE, Nat.reduceEqDiff, Nat.reduceAdd, Nat.reduceMul, Nat.reduceLT, Nat.reduceLeDiff, Nat.reduceSub, reduceCtorEq, reduceIte, Int.reduceToNat, beq_self_eq_true, Bool.and_self]
            refine vreg tt_ok hF rfl ?_; simp only [go_sem, Int.reduceEq, Int.reduceNe, Int.reduceLT, Int.reduceLE, Nat.reduceEqDiff, Nat.reduceAdd, Nat.reduceMul, Nat.reduceLT, Nat.reduceLeDiff, Nat.reduceSub, reduceCtorEq, reduceIte, Int.reduceToNat, beq_self_eq_true, Bool.and_self]
            rw [wrap_i64 (by omega) (by omega)]
            exact ⟨(i + 1, d3, q, σ2), hnext d3 q σ2 (by omega) (by omega) hIv j5 j6, by simp only; omega, by simp⟩
          · rw [hf, if_neg (by decide)] at hu1
            rw [← hu1]
            refine vwp_skip (hNg _ ?_)
            refine VWp.keep [0,1,5,6,10,11] [1000000] ?_; simp only [go_sem, Int.reduceEq, Int.reduceNe, Int.reduceLT, Int.reduceLE, Nat.reduceEqDiff, Nat.reduceAdd, Nat.reduceMul, Nat.reduceLT, Nat.reduceLeDiff, Nat.reduceSub, reduceCtorEq, reduceIte, Int.reduceToNat, beq_self_eq_true, Bool.and_self]
            refine vreg tt_ok hF rfl ?_; simp only [go_sem, Int.reduceEq, Int.reduceNe, Int.reduceLT, Int.reduceLE, Nat.reduceEqDiff, Nat.reduceAdd, Nat.reduceMul, Nat.reduceLT, Nat.reduceLeDiff, Nat.reduceSub, reduceCtorEq, reduceIte, Int.reduceToNat, beq_self_eq_true, Bool.and_self]
            rw [wrap_i64 (by omega) (by omega)]
            exact ⟨(i + 1, d3, q, σ2), hnext d3 q σ2 (by omega) (by omega) hIv j5 j6, by simp only; omega, by simp⟩
  · have hi2 : i = s.length := by have := of_decide_eq_false hf; omega
    subst hi2
    rw [List.drop_length] at j5 j6
    have j5 : σ = R := j5
    have j6 : (d == 0 && !q) = B := j6
    subst j5
    refine vwp_exit ?_
    simp only [go_sem, Int.reduceEq, Int.reduceNe, Int.reduceLT, Int.reduceLE, Nat.reduceEqDiff, Nat.reduceAdd, Nat.reduceMul, Nat.reduceLT, Nat.reduceLeDiff, Nat.reduceSub, reduceCtorEq, reduceIte, Int.reduceToNat, beq_self_eq_true, Bool.and_self]
    refine hNc _ (VWp.keep [5,6] [1000000] ?_); simp only [go_sem, Int.reduceEq, Int.reduceNe, Int.reduceLT, Int.reduceLE, Nat.reduceEqDiff, Nat.reduceAdd, Nat.reduceMul, Nat.reduceLT, Nat.reduceLeDiff, Nat.reduceSub, reduceCtorEq, reduceIte, Int.reduceToNat, beq_self_eq_true, Bool.and_self]
    have e0 : decide (d = (0 : Int)) = (d == 0) := by by_cases h : d = 0 <;> simp [h]
    generalize (d == 0) = b0 at e0 j6
    cases b0
    all_goals
      refine vwp_seq_k fun Nv hNv => vreg tt_ok hF rfl ?_; simp only [go_sem, Int.reduceEq, Int.reduceNe, Int.reduceLT, Int.reduceLE, Nat.reduceEqDiff, Nat.reduceAdd, Nat.reduceMul, Nat.reduceLT, Nat.reduceLeDiff, Nat.reduceSub, reduceCtorEq, reduceIte, Int.reduceToNat, beq_self_eq_true, Bool.and_self, e0]
      refine hNv _ (VWp.keep [4] [1000000] ?_); simp only [go_sem, Int.reduceEq, Int.reduceNe, Int.reduceLT, Int.reduceLE, Nat.reduceEqDiff, Nat.reduceAdd, Nat.reduceMul, Nat.reduceLT, Nat.reduceLeDiff, Nat.reduceSub, reduceCtorEq, reduceIte, Int.reduceToNat, beq_self_eq_true, Bool.and_self]
      refine vwp_ret ?_
      simp only [go_sem, Int.reduceEq, Int.reduceNe, Int.reduceLT, Int.reduceLE, Nat.reduceEqDiff, Nat.reduceAdd, Nat.reduceMul, Nat.reduceLT, Nat.reduceLeDiff, Nat.reduceSub, reduceCtorEq, reduceIte, Int.reduceToNat, beq_self_eq_true, Bool.and_self]
      rw [← j6]
      first | exact LeV.refl _ | exact ⟨LeV.refl _, rfl⟩ | exact ⟨LeV.refl _, rfl, rfl⟩ | exact ⟨LeV.refl _, rfl, rfl, rfl⟩
set_option maxHeartbeats 16000000 in
set_option maxRecDepth 4000 in
theorem walk_ib (vf : FuncId) (f : (Int × Bool) → Nat × UInt8 × Int → (Int × Bool)) (Inv : (Int × Bool) → Nat → Prop) (s : Jb) (hs : s.length ≤ 1000000000) (st : (Int × Bool)) (I0 : Inv st 0) (Im : ∀ σ i, Inv σ i → Inv σ (i + 1)) (Iv : ∀ σ i c d, Inv σ i → Inv (f σ (i, c, d)) (i + 1))
    (hv : ∀ (σ : (Int × Bool)) (i : Nat) (c : UInt8) (d : Int), i < s.length → 0 ≤ d → d ≤ 1000000000 → Inv σ i → SpecB Tryz.prog vf [.int .i64 (i : Int), .int .u8 ((c.toNat : Nat) : Int), .int .i64 d, .ptr 1000000 0, .ptr 1000001 0] [(1000000, .box 3 [.int .i64 σ.1]), (1000001, .box 4 [.bool σ.2])] (.tup []) [(1000000, .box 3 [.int .i64 (f σ (i, c, d)).1]), (1000001, .box 4 [.bool (f σ (i, c, d)).2])]) :
    SpecB Tryz.prog 39 [.str s, .fn (.func vf) [.ptr 1000000 0, .ptr 1000001 0]] [(1000000, .box 3 [.int .i64 st.1]), (1000001, .box 4 [.bool st.2])] (.bool (balJ s)) [(1000000, .box 3 [.int .i64 ((visJ s).foldl f st).1]), (1000001, .box 4 [.bool ((visJ s).foldl f st).2])] := by
  obtain ⟨R, hR⟩ : ∃ R, (visJ s).foldl f st = R := ⟨_, rfl⟩
  obtain ⟨B, hB⟩ : ∃ B, balJ s = B := ⟨_, rfl⟩
  rw [hR, hB]
  refine specB_of tt_ok Tryz.func39 rfl (by decide) Tryz.ntmps39 (congrArg Array.toList Tryz.results39) (by simp) (by decide) rfl (by simp only [go_sem, Int.reduceEq, Int.reduceNe, Int.reduceLT, Int.reduceLE, Nat.reduceEqDiff, Nat.reduceAdd, Nat.reduceMul, Nat.reduceLT, Nat.reduceLeDiff, Nat.reduceSub, reduceCtorEq, reduceIte, Int.reduceToNat, beq_self_eq_true, Bool.and_self]) (fun F hF => ?_)
  refine vwp_seq_k fun Na hNa => vreg tt_ok hF rfl ?_; simp only [go_sem, Int.reduceEq, Int.reduceNe, Int.reduceLT, Int.reduceLE, Nat.reduceEqDiff, Nat.reduceAdd, Nat.reduceMul, Nat.reduceLT, Nat.reduceLeDiff, Nat.reduceSub, reduceCtorEq, reduceIte, Int.reduceToNat, beq_self_eq_true, Bool.and_self]
  refine hNa _ (VWp.keepR [0,1] [1000000,1000001] tt_ok hF rfl fun Nb hNb => ?_); simp only [go_sem, Int.reduceEq, Int.reduceNe, Int.reduceLT, Int.reduceLE, Nat.reduceEqDiff, Nat.reduceAdd, Nat.reduceMul, Nat.reduceLT, Nat.reduceLeDiff, Nat.reduceSub, reduceCtorEq, reduceIte, Int.reduceToNat, beq_self_eq_true, Bool.and_self]
  refine hNb _ (VWp.keep [0,1,5,6] [1000000,1000001] ?_); simp only [go_sem, Int.reduceEq, Int.reduceNe, Int.reduceLT, Int.reduceLE, Nat.reduceEqDiff, Nat.reduceAdd, Nat.reduceMul, Nat.reduceLT, Nat.reduceLeDiff, Nat.reduceSub, reduceCtorEq, reduceIte, Int.reduceToNat, beq_self_eq_true, Bool.and_self]
  refine vwp_seq_k fun Nc hNc => ?_
  refine vwp_seq_k fun Nd hNd => vreg tt_ok hF rfl ?_; simp only [go_sem, Int.reduceEq, Int.reduceNe, Int.reduceLT, Int.reduceLE, Nat.reduceEqDiff, Nat.reduceAdd, Nat.reduceMul, Nat.reduceLT, Nat.reduceLeDiff, Nat.reduceSub, reduceCtorEq, reduceIte, Int.reduceToNat, beq_self_eq_true, Bool.and_self]
  refine hNd _ (VWp.keep [0,1,5,6,10,11] [1000000,1000001] ?_); simp only [go_sem, Int.reduceEq, Int.reduceNe, Int.reduceLT, Int.reduceLE, Nat.reduceEqDiff, Nat.reduceAdd, Nat.reduceMul, Nat.reduceLT, Nat.reduceLeDiff, Nat.reduceSub, reduceCtorEq, reduceIte, Int.reduceToNat, beq_self_eq_true, Bool.and_self]
  refine vwp_block (vloop (fun z : Nat × Int × Bool × (Int × Bool) => [(0, .str s), (1, .fn (.func vf) [.ptr 1000000 0, .ptr 1000001 0]), (5, .int .i64 z.2.1), (6, .bool z.2.2.1), (10, .int .i64 (s.length : Int)), (11, .int .i64 (z.1 : Int))]) (fun z => [(1000000, .box 3 [.int .i64 z.2.2.2.1]), (1000001, .box 4 [.bool z.2.2.2.2])])
    (fun z => z.1 ≤ s.length ∧ 0 ≤ z.2.1 ∧ z.2.1 ≤ z.1 ∧ Inv z.2.2.2 z.1 ∧ (walkJ (s.drop z.1) z.1 z.2.1 z.2.2.1).1.foldl f z.2.2.2 = R ∧ (walkJ (s.drop z.1) z.1 z.2.1 z.2.2.1).2 = B) (fun z => s.length - z.1) (0, 0, false, st)
    ⟨by simp, by simp, by simp, I0, hR, hB⟩ (by simp only [go_sem, Int.reduceEq, Int.reduceNe, Int.reduceLT, Int.reduceLE, Nat.reduceEqDiff, Nat.reduceAdd, Nat.reduceMul, Nat.reduceLT, Nat.reduceLeDiff, Nat.reduceSub, reduceCtorEq, reduceIte, Int.reduceToNat, beq_self_eq_true, Bool.and_self]) ?_)
  rintro ⟨i, d, q, σ⟩ ⟨j1, j2, j3, j4, j5, j6⟩
  have j1 : i ≤ s.length := j1
  have j2 : 0 ≤ d := j2
  have j3 : d ≤ i := j3
  have j4 : Inv σ i := j4
  have j5 : (walkJ (s.drop i) i d q).1.foldl f σ = R := j5
  have j6 : (walkJ (s.drop i) i d q).2 = B := j6
  try dsimp only
  refine vwp_seq_k fun Ne hNe => vreg tt_ok hF rfl ?_; simp only [go_sem, Int.reduceEq, Int.reduceNe, Int.reduceLT, Int.reduceLE, Nat.reduceEqDiff, Nat.reduceAdd, Nat.reduceMul, Nat.reduceLT, Nat.reduceLeDiff, Nat.reduceSub, reduceCtorEq, reduceIte, Int.reduceToNat, beq_self_eq_true, Bool.and_self]
  refine hNe _ (VWp.keep [0,1,5,6,10,11,12] [1000000,1000001] ?_); simp only [go_sem, Int.reduceEq, Int.reduceNe, Int.reduceLT, Int.reduceLE, Nat.reduceEqDiff, Nat.reduceAdd, Nat.reduceMul, Nat.reduceLT, Nat.reduceLeDiff, Nat.reduceSub, reduceCtorEq, reduceIte, Int.reduceToNat, beq_self_eq_true, Bool.and_self]
  refine vwp_seq_k fun Nf hNf => ?_
  refine vif rfl ⟨fun ht => ?_, fun hf => ?_⟩
  · have hlt : i < s.length := by have := of_decide_eq_true ht; omega
    have hvi := fun c => hv σ i c (dnJ c d) hlt
    rw [drop_at s i hlt] at j5 j6
    have hnext := fun (d' : Int) (q' : Bool) (σ' : (Int × Bool)) (k2 : 0 ≤ d') (k3 : d' ≤ i + 1) (k4 : Inv σ' (i + 1)) (k5 : (walkJ (s.drop (i + 1)) (i + 1) d' q').1.foldl f σ' = R) (k6 : (walkJ (s.drop (i + 1)) (i + 1) d' q').2 = B) =>
      (⟨by omega, k2, by push_cast; omega, k4, k5, k6⟩ : i + 1 ≤ s.length ∧ 0 ≤ d' ∧ d' ≤ ((i + 1 : Nat) : Int) ∧ Inv σ' (i + 1) ∧ (walkJ (s.drop (i + 1)) (i + 1) d' q').1.foldl f σ' = R ∧ (walkJ (s.drop (i + 1)) (i + 1) d' q').2 = B)
    refine vwp_skip (hNf _ ?_)
    refine vwp_seq_k fun Ng hNg => ?_
    refine vwp_block ?_
    refine vwp_seq_k fun Nh hNh => vreg tt_ok hF rfl ?_; simp only [go_sem, Int.reduceEq, Int.reduceNe, Int.reduceLT, Int.reduceLE, Nat.reduceEqDiff, Nat.reduceAdd, Nat.reduceMul, Nat.reduceLT, Nat.reduceLeDiff, Nat.reduceSub, reduceCtorEq, reduceIte, Int.reduceToNat, beq_self_eq_true, Bool.and_self]
    refine hNh _ (VWp.keepR [0,1,5,6,7,10,11] [1000000,1000001] tt_ok hF rfl fun Ni hNi => ?_); simp only [go_sem, Int.reduceEq, Int.reduceNe, Int.reduceLT, Int.reduceLE, Nat.reduceEqDiff, Nat.reduceAdd, Nat.reduceMul, Nat.reduceLT, Nat.reduceLeDiff, Nat.reduceSub, reduceCtorEq, reduceIte, Int.reduceToNat, beq_self_eq_true, Bool.and_self]
    refine ⟨⟨by omega, by omega⟩, ?_⟩
    generalize s.getD i 0 = c at j5 j6
    rw [walkJ_step] at j5 j6
    have hvi := hvi c
    refine hNi _ (VWp.keep [0,1,5,6,7,8,10,11] [1000000,1000001] ?_); simp only [go_sem, Int.reduceEq, Int.reduceNe, Int.reduceLT, Int.reduceLE, Nat.reduceEqDiff, Nat.reduceAdd, Nat.reduceMul, Nat.reduceLT, Nat.reduceLeDiff, Nat.reduceSub, reduceCtorEq, reduceIte, Int.reduceToNat, beq_self_eq_true, Bool.and_self]
    refine vwp_seq_k fun Nj hNj => ?_
    have e39 : decide (((c.toNat : Nat) : Int) = (39 : Int)) = (c == 39) := u8eq 39 c
    have e40 : decide (((c.toNat : Nat) : Int) = (40 : Int)) = (c == 40) := u8eq 40 c
    have e41 : decide (((c.toNat : Nat) : Int) = (41 : Int)) = (c == 41) := u8eq 41 c
    refine vwp_seq_k fun Nk hNk => vreg tt_ok hF rfl ?_; simp only [go_sem, Int.reduceEq, Int.reduceNe, Int.reduceLT, Int.reduceLE, Nat.reduceEqDiff, Nat.reduceAdd, Nat.reduceMul, Nat.reduceLT, Nat.reduceLeDiff, Nat.reduceSub, reduceCtorEq, reduceIte, Int.reduceToNat, beq_self_eq_true, Bool.and_self, e39]
    refine hNk _ (VWp.keep [0,1,5,6,7,8,10,11,18] [1000000,1000001] ?_); simp only [go_sem, Int.reduceEq, Int.reduceNe, Int.reduceLT, Int.reduceLE, Nat.reduceEqDiff, Nat.reduceAdd, Nat.reduceMul, Nat.reduceLT, Nat.reduceLeDiff, Nat.reduceSub, reduceCtorEq, reduceIte, Int.reduceToNat, beq_self_eq_true, Bool.and_self]
    refine vif rfl ⟨fun ht => ?_, fun hf => ?_⟩
    · rw [if_pos ht] at j5 j6
      refine vwp_seq_k fun Nl hNl => vreg tt_ok hF rfl ?_; simp only [go_sem, Int.reduceEq, Int.reduceNe, Int.reduceLT, Int.reduceLE, Nat.reduceEqDiff, Nat.reduceAdd, Nat.reduceMul, Nat.reduceLT, Nat.reduceLeDiff, Nat.reduceSub, reduceCtorEq, reduceIte, Int.reduceToNat, beq_self_eq_true, Bool.and_self]
      refine hNl _ (VWp.keep [0,1,5,6,10,11] [1000000,1000001] ?_); simp only [go_sem, Int.reduceEq, Int.reduceNe, Int.reduceLT, Int.reduceLE, Nat.reduceEqDiff, Nat.reduceAdd, Nat.reduceMul, Nat.reduceLT, Nat.reduceLeDiff, Nat.reduceSub, reduceCtorEq, reduceIte, Int.reduceToNat, beq_self_eq_true, Bool.and_self]
      refine vwp_exit ?_
      simp only [go_sem, Int.reduceEq, Int.reduceNe, Int.reduceLT, Int.reduceLE, Nat.reduceEqDiff, Nat.reduceAdd, Nat.reduceMul, Nat.reduceLT, Nat.reduceLeDiff, Nat.reduceSub, reduceCtorEq, reduceIte, Int.reduceToNat, beq_self_eq_true, Bool.and_self]
      refine hNg _ (VWp.keep [0,1,5,6,10,11] [1000000,1000001] ?_); simp only [go_sem, Int.reduceEq, Int.reduceNe, Int.reduceLT, Int.reduceLE, Nat.reduceEqDiff, Nat.reduceAdd, Nat.reduceMul, Nat.reduceLT, Nat.reduceLeDiff, Nat.reduceSub, reduceCtorEq, reduceIte, Int.reduceToNat, beq_self_eq_true, Bool.and_self]
      refine vreg tt_ok hF rfl ?_; simp only [go_sem, Int.reduceEq, Int.reduceNe, Int.reduceLT, Int.reduceLE, Nat.reduceEqDiff, Nat.reduceAdd, Nat.reduceMul, Nat.reduceLT, Nat.reduceLeDiff, Nat.reduceSub, reduceCtorEq, reduceIte, Int.reduceToNat, beq_self_eq_true, Bool.and_self]
      rw [wrap_i64 (by omega) (by omega)]
      exact ⟨(i + 1, d, !q, σ), hnext d (!q) σ j2 (by omega) (Im σ i j4) j5 j6, by simp only; omega, by simp⟩
    · rw [if_neg (by rw [hf]; simp)] at j5 j6
      refine vwp_skip (hNj _ ?_)
      refine vwp_seq_k fun Nm hNm => ?_
      refine vwp_seq_k fun Nn hNn => vreg tt_ok hF rfl ?_; simp only [go_sem, Int.reduceEq, Int.reduceNe, Int.reduceLT, Int.reduceLE, Nat.reduceEqDiff, Nat.reduceAdd, Nat.reduceMul, Nat.reduceLT, Nat.reduceLeDiff, Nat.reduceSub, reduceCtorEq, reduceIte, Int.reduceToNat, beq_self_eq_true, Bool.and_self]
      refine hNn _ (VWp.keep [0,1,5,6,7,8,10,11,21] [1000000,1000001] ?_); simp only [go_sem, Int.reduceEq, Int.reduceNe, Int.reduceLT, Int.reduceLE, Nat.reduceEqDiff, Nat.reduceAdd, Nat.reduceMul, Nat.reduceLT, Nat.reduceLeDiff, Nat.reduceSub, reduceCtorEq, reduceIte, Int.reduceToNat, beq_self_eq_true, Bool.and_self]
      refine vif rfl ⟨fun ht => ?_, fun hf => ?_⟩
      · rw [if_pos ht] at j5 j6
        refine vwp_exit ?_
        simp only [go_sem, Int.reduceEq, Int.reduceNe, Int.reduceLT, Int.reduceLE, Nat.reduceEqDiff, Nat.reduceAdd, Nat.reduceMul, Nat.reduceLT, Nat.reduceLeDiff, Nat.reduceSub, reduceCtorEq, reduceIte, Int.reduceToNat, beq_self_eq_true, Bool.and_self]
        refine hNg _ (VWp.keep [0,1,5,6,10,11] [1000000,1000001] ?_); simp only [go_sem, Int.reduceEq, Int.reduceNe, Int.reduceLT, Int.reduceLE, Nat.reduceEqDiff, Nat.reduceAdd, Nat.reduceMul, Nat.reduceLT, Nat.reduceLeDiff, Nat.reduceSub, reduceCtorEq, reduceIte, Int.reduceToNat, beq_self_eq_true, Bool.and_self]
        refine vreg tt_ok hF rfl ?_; simp only [go_sem, Int.reduceEq, Int.reduceNe, Int.reduceLT, Int.reduceLE, Nat.reduceEqDiff, Nat.reduceAdd, Nat.reduceMul, Nat.reduceLT, Nat.reduceLeDiff, Nat.reduceSub, reduceCtorEq, reduceIte, Int.reduceToNat, beq_self_eq_true, Bool.and_self]
        rw [wrap_i64 (by omega) (by omega)]
        exact ⟨(i + 1, d, q, σ), hnext d q σ j2 (by omega) (Im σ i j4) j5 j6, by simp only; omega, by simp⟩
      · rw [if_neg (by rw [hf]; simp)] at j5 j6
        refine vwp_skip (hNm _ ?_)
        refine vmeet (fun _ : Unit => [(0, .str s), (1, .fn (.func vf) [.ptr 1000000 0, .ptr 1000001 0]), (5, .int .i64 (dnJ c d)), (6, .bool q), (7, .int .i64 (i : Int)), (8, .int .u8 ((c.toNat : Nat) : Int)), (10, .int .i64 (s.length : Int)), (11, .int .i64 (i : Int))]) (fun _ => [(1000000, .box 3 [.int .i64 σ.1]), (1000001, .box 4 [.bool σ.2])]) (fun _ => True) ?_ ?_
        · refine vwp_seq_k fun Np hNp => vreg tt_ok hF rfl ?_; simp only [go_sem, Int.reduceEq, Int.reduceNe, Int.reduceLT, Int.reduceLE, Nat.reduceEqDiff, Nat.reduceAdd, Nat.reduceMul, Nat.reduceLT, Nat.reduceLeDiff, Nat.reduceSub, reduceCtorEq, reduceIte, Int.reduceToNat, beq_self_eq_true, Bool.and_self, e41]
          refine hNp _ (VWp.keep [0,1,5,6,7,8,10,11,23] [1000000,1000001] ?_); simp only [go_sem, Int.reduceEq, Int.reduceNe, Int.reduceLT, Int.reduceLE, Nat.reduceEqDiff, Nat.reduceAdd, Nat.reduceMul, Nat.reduceLT, Nat.reduceLeDiff, Nat.reduceSub, reduceCtorEq, reduceIte, Int.reduceToNat, beq_self_eq_true, Bool.and_self]
          refine vif rfl ⟨fun ht => ?_, fun hf => ?_⟩
          · refine vreg tt_ok hF rfl ?_; simp only [go_sem, Int.reduceEq, Int.reduceNe, Int.reduceLT, Int.reduceLE, Nat.reduceEqDiff, Nat.reduceAdd, Nat.reduceMul, Nat.reduceLT, Nat.reduceLeDiff, Nat.reduceSub, reduceCtorEq, reduceIte, Int.reduceToNat, beq_self_eq_true, Bool.and_self]
            rw [wrap_i64 (by omega) (by omega)]
            exact ⟨(), by simp [dnJ, ht]⟩
          · refine vwp_skip ?_
            simp only [go_sem, Int.reduceEq, Int.reduceNe, Int.reduceLT, Int.reduceLE, Nat.reduceEqDiff, Nat.reduceAdd, Nat.reduceMul, Nat.reduceLT, Nat.reduceLeDiff, Nat.reduceSub, reduceCtorEq, reduceIte, Int.reduceToNat, beq_self_eq_true, Bool.and_self]
            exact ⟨(), by simp [dnJ, hf]⟩
        intro _ _
        have hd1 : dnJ c d ≤ d ∧ d - 1 ≤ dnJ c d := by unfold dnJ; split <;> omega
        have hu1 : upJ c (dnJ c d) = (if c == 40 then dnJ c d + 1 else dnJ c d) := rfl
        generalize upJ c (dnJ c d) = d3 at j5 j6 hu1
        generalize dnJ c d = d2 at j5 j6 hd1 hvi hu1
        refine vwp_seq_k fun Nq hNq => ?_
        refine vwp_seq_k fun Nr hNr => vreg tt_ok hF rfl ?_; simp only [go_sem, Int.reduceEq, Int.reduceNe, Int.reduceLT, Int.reduceLE, Nat.reduceEqDiff, Nat.reduceAdd, Nat.reduceMul, Nat.reduceLT, Nat.reduceLeDiff, Nat.reduceSub, reduceCtorEq, reduceIte, Int.reduceToNat, beq_self_eq_true, Bool.and_self]
        refine hNr _ (VWp.keep [0,1,5,6,7,8,10,11,27] [1000000,1000001] ?_); simp only [go_sem, Int.reduceEq, Int.reduceNe, Int.reduceLT, Int.reduceLE, Nat.reduceEqDiff, Nat.reduceAdd, Nat.reduceMul, Nat.reduceLT, Nat.reduceLeDiff, Nat.reduceSub, reduceCtorEq, reduceIte, Int.reduceToNat, beq_self_eq_true, Bool.and_self]
        refine vif rfl ⟨fun ht => ?_, fun hf => ?_⟩
        · rw [if_pos (of_decide_eq_true ht)] at j5 j6
          refine vwp_seq_k fun Ns hNs => vreg tt_ok hF rfl ?_; simp only [go_sem, Int.reduceEq, Int.reduceNe, Int.reduceLT, Int.reduceLE, Nat.reduceEqDiff, Nat.reduceAdd, Nat.reduceMul, Nat.reduceLT, Nat.reduceLeDiff, Nat.reduceSub, reduceCtorEq, reduceIte, Int.reduceToNat, beq_self_eq_true, Bool.and_self]
          refine hNs _ (VWp.keep [4] [1000000,1000001] ?_); simp only [go_sem, Int.reduceEq, Int.reduceNe, Int.reduceLT, Int.reduceLE, Nat.reduceEqDiff, Nat.reduceAdd, Nat.reduceMul, Nat.reduceLT, Nat.reduceLeDiff, Nat.reduceSub, reduceCtorEq, reduceIte, Int.reduceToNat, beq_self_eq_true, Bool.and_self]
          refine vwp_ret ?_
          simp only [go_sem, Int.reduceEq, Int.reduceNe, Int.reduceLT, Int.reduceLE, Nat.reduceEqDiff, Nat.reduceAdd, Nat.reduceMul, Nat.reduceLT, Nat.reduceLeDiff, Nat.reduceSub, reduceCtorEq, reduceIte, Int.reduceToNat, beq_self_eq_true, Bool.and_self]
          have j5 : σ = R := j5
          have j6 : false = B := j6
          subst j5 j6
          first | exact LeV.refl _ | exact ⟨LeV.refl _, rfl⟩ | exact ⟨LeV.refl _, rfl, rfl⟩ | exact ⟨LeV.refl _, rfl, rfl, rfl⟩
        · have hge := of_decide_eq_false hf
          rw [if_neg hge] at j5 j6
          have hvi := hvi (by omega) (by omega) j4
          refine vwp_skip (hNq _ ?_)
          refine vwp_seq_k fun Nt hNt => vreg tt_ok hF rfl ?_; simp only [go_sem, Int.reduceEq, Int.reduceNe, Int.reduceLT, Int.reduceLE, Nat.reduceEqDiff, Nat.reduceAdd, Nat.reduceMul, Nat.reduceLT, Nat.reduceLeDiff, Nat.reduceSub, reduceCtorEq, reduceIte, Int.reduceToNat, beq_self_eq_true, Bool.and_self]
          refine .inr (bxo [(1000000, 1000000), (1000001, 1000001)] rfl ?_); simp only [go_sem, Int.reduceEq, Int.reduceNe, Int.reduceLT, Int.reduceLE, Nat.reduceEqDiff, Nat.reduceAdd, Nat.reduceMul, Nat.reduceLT, Nat.reduceLeDiff, Nat.reduceSub, reduceCtorEq, reduceIte, Int.reduceToNat, beq_self_eq_true, Bool.and_self]; refine ⟨_, _, hvi, ?_⟩; try simp only [go_sem, Int.reduceEq, Int.reduceNe, Int.reduceLT, Int.reduceLE, Nat.reduceEqDiff, Nat.reduceAdd, Nat.reduceMul, Nat.reduceLT, Nat.reduceLeDiff, Nat.reduceSub, reduceCtorEq, reduceIte, Int.reduceToNat, beq_self_eq_true, Bool.and_self]
          refine hNt _ (VWp.keep [0,1,5,6,8,10,11] [1000000,1000001] ?_); simp only [go_sem, Int.reduceEq, Int.reduceNe, Int.reduceLT, Int.reduceLE, Nat.reduceEqDiff, Nat.reduceAdd, Nat.reduceMul, Nat.reduceLT, Nat.reduceLeDiff, Nat.reduceSub, reduceCtorEq, reduceIte, Int.reduceToNat, beq_self_eq_true, Bool.and_self]
          have j5 : (walkJ (s.drop (i + 1)) (i + 1) d3 q).1.foldl f (f σ (i, c, d2)) = R := j5
          have j6 : (walkJ (s.drop (i + 1)) (i + 1) d3 q).2 = B := j6
          have hIv := Iv σ i c d2 j4
          generalize f σ (i, c, d2) = σ2 at j5 hIv
          refine vwp_seq_k fun Nu hNu => vreg tt_ok hF rfl ?_; simp only [go_sem, Int.reduceEq, Int.reduceNe, Int.reduceLT, Int.reduceLE, Nat.reduceEqDiff, Nat.reduceAdd, Nat.reduceMul, Nat.reduceLT, Nat.reduceLeDiff, Nat.reduceSub, reduceCtorEq, reduceIte, Int.reduceToNat, beq_self_eq_true, Bool.and_self, e40]
          refine hNu _ (VWp.keep [0,1,5,6,10,11,34] [1000000,1000001] ?_); simp only [go_sem, Int.reduceEq, Int.reduceNe, Int.reduceLT, Int.reduceLE, Nat.reduceEqDiff, Nat.reduceAdd, Nat.reduceMul, Nat.reduceLT, Nat.reduceLeDiff, Nat.reduceSub, reduceCtorEq, reduceIte, Int.reduceToNat, beq_self_eq_true, Bool.and_self]
          refine vif rfl ⟨fun ht => ?_, fun hf => ?_⟩
          · rw [ht, if_pos rfl] at hu1
            refine vreg tt_ok hF rfl ?_; simp only [go_sem, Int.reduceEq, Int.reduceNe, Int.reduceLT, Int.reduceLE, Nat.reduceEqDiff, Nat.reduceAdd, Nat.reduceMul, Nat.reduceLT, Nat.reduceLeDiff, Nat.reduceSub, reduceCtorEq, reduceIte, Int.reduceToNat, beq_self_eq_true, Bool.and_self]
            rw [wrap_i64 (by omega) (by omega), ← hu1]
            refine hNg _ (VWp.keep [0,1,5,6,10,11] [1000000,1000001] ?_); simp only [go_sem, Int.reduceEq, Int.reduceNe, Int.reduceLT, Int.reduceLE, Nat.reduceEqDiff, Nat.reduceAdd, Nat.reduceMul, Nat.reduceLT, Nat.reduceLeDiff, Nat.reduceSub, reduceCtorEq, reduceIte, Int.reduceToNat, beq_self_eq_true, Bool.and_self]
            refine vreg tt_ok hF rfl ?_; simp only [go_sem, Int.reduceEq, Int.reduceNe, Int.reduceLT, Int.reduceLE, Nat.reduceEqDiff, Nat.reduceAdd, Nat.reduceMul, Nat.reduceLT, Nat.reduceLeDiff, Nat.reduceSub, reduceCtorEq, reduceIte, Int.reduceToNat, beq_self_eq_true, Bool.and_self]
            rw [wrap_i64 (by omega) (by omega)]
            exact ⟨(i + 1, d3, q, σ2), hnext d3 q σ2 (by omega) (by omega) hIv j5 j6, by simp only; omega, by simp⟩
          · rw [hf, if_neg (by decide)] at hu1
            rw [← hu1]
            refine vwp_skip (hNg _ ?_)
            refine VWp.keep [0,1,5,6,10,11] [1000000,1000001] ?_; simp only [go_sem, Int.reduceEq, Int.reduceNe, Int.reduceLT, Int.reduceLE, Nat.reduceEqDiff, Nat.reduceAdd, Nat.reduceMul, Nat.reduceLT, Nat.reduceLeDiff, Nat.reduceSub, reduceCtorEq, reduceIte, Int.reduceToNat, beq_self_eq_true, Bool.and_self]
            refine vreg tt_ok hF rfl ?_; simp only [go_sem, Int.reduceEq, Int.reduceNe, Int.reduceLT, Int.reduceLE, Nat.reduceEqDiff, Nat.reduceAdd, Nat.reduceMul, Nat.reduceLT, Nat.reduceLeDiff, Nat.reduceSub, reduceCtorEq, reduceIte, Int.reduceToNat, beq_self_eq_true, Bool.and_self]
            rw [wrap_i64 (by omega) (by omega)]
            exact ⟨(i + 1, d3, q, σ2), hnext d3 q σ2 (by omega) (by omega) hIv j5 j6, by simp only; omega, by simp⟩
  · have hi2 : i = s.length := by have := of_decide_eq_false hf; omega
    subst hi2
    rw [List.drop_length] at j5 j6
    have j5 : σ = R := j5
    have j6 : (d == 0 && !q) = B := j6
    subst j5
    refine vwp_exit ?_
    simp only [go_sem, Int.reduceEq, Int.reduceNe, Int.reduceLT, Int.reduceLE, Nat.reduceEqDiff, Nat.reduceAdd, Nat.reduceMul, Nat.reduceLT, Nat.reduceLeDiff, Nat.reduceSub, reduceCtorEq, reduceIte, Int.reduceToNat, beq_self_eq_true, Bool.and_self]
    refine hNc _ (VWp.keep [5,6] [1000000,1000001] ?_); simp only [go_sem, Int.reduceEq, Int.reduceNe, Int.reduceLT, Int.reduceLE, Nat.reduceEqDiff, Nat.reduceAdd, Nat.reduceMul, Nat.reduceLT, Nat.reduceLeDiff, Nat.reduceSub, reduceCtorEq, reduceIte, Int.reduceToNat, beq_self_eq_true, Bool.and_self]
    have e0 : decide (d = (0 : Int)) = (d == 0) := by by_cases h : d = 0 <;> simp [h]
    generalize (d == 0) = b0 at e0 j6
    cases b0
    all_goals
      refine vwp_seq_k fun Nv hNv => vreg tt_ok hF rfl ?_; simp only [go_sem, Int.reduceEq, Int.reduceNe, Int.reduceLT, Int.reduceLE, Nat.reduceEqDiff, Nat.reduceAdd, Nat.reduceMul, Nat.reduceLT, Nat.reduceLeDiff, Nat.reduceSub, reduceCtorEq, reduceIte, Int.reduceToNat, beq_self_eq_true, Bool.and_self, e0]
      refine hNv _ (VWp.keep [4] [1000000,1000001] ?_); simp only [go_sem, Int.reduceEq, Int.reduceNe, Int.reduceLT, Int.reduceLE, Nat.reduceEqDiff, Nat.reduceAdd, Nat.reduceMul, Nat.reduceLT, Nat.reduceLeDiff, Nat.reduceSub, reduceCtorEq, reduceIte, Int.reduceToNat, beq_self_eq_true, Bool.and_self]
      refine vwp_ret ?_
      simp only [go_sem, Int.reduceEq, Int.reduceNe, Int.reduceLT, Int.reduceLE, Nat.reduceEqDiff, Nat.reduceAdd, Nat.reduceMul, Nat.reduceLT, Nat.reduceLeDiff, Nat.reduceSub, reduceCtorEq, reduceIte, Int.reduceToNat, beq_self_eq_true, Bool.and_self]
      rw [← j6]
      first | exact LeV.refl _ | exact ⟨LeV.refl _, rfl⟩ | exact ⟨LeV.refl _, rfl, rfl⟩ | exact ⟨LeV.refl _, rfl, rfl, rfl⟩
set_option maxHeartbeats 16000000 in
set_option maxRecDepth 4000 in
theorem walk_s (S : Jb) (vf : FuncId) (f : (List Jb × Nat) → Nat × UInt8 × Int → (List Jb × Nat)) (Inv : (List Jb × Nat) → Nat → Prop) (s : Jb) (hs : s.length ≤ 1000000000) (st : (List Jb × Nat)) (I0 : Inv st 0) (Im : ∀ σ i, Inv σ i → Inv σ (i + 1)) (Iv : ∀ σ i c d, Inv σ i → Inv (f σ (i, c, d)) (i + 1))
    (hv : ∀ (σ : (List Jb × Nat)) (i : Nat) (c : UInt8) (d : Int), i < s.length → 0 ≤ d → d ≤ 1000000000 → Inv σ i → SpecB Tryz.prog vf [.int .i64 (i : Int), .int .u8 ((c.toNat : Nat) : Int), .int .i64 d, .ptr 1000000 0, .ptr 1000001 0, .ptr 1000002 0] [(1000000, .box 25 [.own 1000003 σ.1.length]), (1000001, .box 9 [.str S]), (1000002, .box 3 [.int .i64 (σ.2 : Int)]), (1000003, .arr 1 9 (σ.1.map fun w => [V.str w]))] (.tup []) [(1000000, .box 25 [.own 1000003 (f σ (i, c, d)).1.length]), (1000001, .box 9 [.str S]), (1000002, .box 3 [.int .i64 ((f σ (i, c, d)).2 : Int)]), (1000003, .arr 1 9 ((f σ (i, c, d)).1.map fun w => [V.str w]))]) :
    SpecB Tryz.prog 39 [.str s, .fn (.func vf) [.ptr 1000000 0, .ptr 1000001 0, .ptr 1000002 0]] [(1000000, .box 25 [.own 1000003 st.1.length]), (1000001, .box 9 [.str S]), (1000002, .box 3 [.int .i64 (st.2 : Int)]), (1000003, .arr 1 9 (st.1.map fun w => [V.str w]))] (.bool (balJ s)) [(1000000, .box 25 [.own 1000003 ((visJ s).foldl f st).1.length]), (1000001, .box 9 [.str S]), (1000002, .box 3 [.int .i64 (((visJ s).foldl f st).2 : Int)]), (1000003, .arr 1 9 (((visJ s).foldl f st).1.map fun w => [V.str w]))] := by
  obtain ⟨R, hR⟩ : ∃ R, (visJ s).foldl f st = R := ⟨_, rfl⟩
  obtain ⟨B, hB⟩ : ∃ B, balJ s = B := ⟨_, rfl⟩
  rw [hR, hB]
  refine specB_of tt_ok Tryz.func39 rfl (by decide) Tryz.ntmps39 (congrArg Array.toList Tryz.results39) (by simp) (by decide) rfl (by simp only [go_sem, Int.reduceEq, Int.reduceNe, Int.reduceLT, Int.reduceLE, Nat.reduceEqDiff, Nat.reduceAdd, Nat.reduceMul, Nat.reduceLT, Nat.reduceLeDiff, Nat.reduceSub, reduceCtorEq, reduceIte, Int.reduceToNat, beq_self_eq_true, Bool.and_self]) (fun F hF => ?_)
  refine vwp_seq_k fun Na hNa => vreg tt_ok hF rfl ?_; simp only [go_sem, Int.reduceEq, Int.reduceNe, Int.reduceLT, Int.reduceLE, Nat.reduceEqDiff, Nat.reduceAdd, Nat.reduceMul, Nat.reduceLT, Nat.reduceLeDiff, Nat.reduceSub, reduceCtorEq, reduceIte, Int.reduceToNat, beq_self_eq_true, Bool.and_self]
  refine hNa _ (VWp.keepR [0,1] [1000000,1000001,1000002,1000003] tt_ok hF rfl fun Nb hNb => ?_); simp only [go_sem, Int.reduceEq, Int.reduceNe, Int.reduceLT, Int.reduceLE, Nat.reduceEqDiff, Nat.reduceAdd, Nat.reduceMul, Nat.reduceLT, Nat.reduceLeDiff, Nat.reduceSub, reduceCtorEq, reduceIte, Int.reduceToNat, beq_self_eq_true, Bool.and_self]
  refine hNb _ (VWp.keep [0,1,5,6] [1000000,1000001,1000002,1000003] ?_); simp only [go_sem, Int.reduceEq, Int.reduceNe, Int.reduceLT, Int.reduceLE, Nat.reduceEqDiff, Nat.reduceAdd, Nat.reduceMul, Nat.reduceLT, Nat.reduceLeDiff, Nat.reduceSub, reduceCtorEq, reduceIte, Int.reduceToNat, beq_self_eq_true, Bool.and_self]
  refine vwp_seq_k fun Nc hNc => ?_
  refine vwp_seq_k fun Nd hNd => vreg tt_ok hF rfl ?_; simp only [go_sem, Int.reduceEq, Int.reduceNe, Int.reduceLT, Int.reduceLE, Nat.reduceEqDiff, Nat.reduceAdd, Nat.reduceMul, Nat.reduceLT, Nat.reduceLeDiff, Nat.reduceSub, reduceCtorEq, reduceIte, Int.reduceToNat, beq_self_eq_true, Bool.and_self]
  refine hNd _ (VWp.keep [0,1,5,6,10,11] [1000000,1000001,1000002,1000003] ?_); simp only [go_sem, Int.reduceEq, Int.reduceNe, Int.reduceLT, Int.reduceLE, Nat.reduceEqDiff, Nat.reduceAdd, Nat.reduceMul, Nat.reduceLT, Nat.reduceLeDiff, Nat.reduceSub, reduceCtorEq, reduceIte, Int.reduceToNat, beq_self_eq_true, Bool.and_self]
  refine vwp_block (vloop (fun z : Nat × Int × Bool × (List Jb × Nat) => [(0, .str s), (1, .fn (.func vf) [.ptr 1000000 0, .ptr 1000001 0, .ptr 1000002 0]), (5, .int .i64 z.2.1), (6, .bool z.2.2.1), (10, .int .i64 (s.length : Int)), (11, .int .i64 (z.1 : Int))]) (fun z => [(1000000, .box 25 [.own 1000003 z.2.2.2.1.length]), (1000001, .box 9 [.str S]), (1000002, .box 3 [.int .i64 (z.2.2.2.2 : Int)]), (1000003, .arr 1 9 (z.2.2.2.1.map fun w => [V.str w]))])
    (fun z => z.1 ≤ s.length ∧ 0 ≤ z.2.1 ∧ z.2.1 ≤ z.1 ∧ Inv z.2.2.2 z.1 ∧ (walkJ (s.drop z.1) z.1 z.2.1 z.2.2.1).1.foldl f z.2.2.2 = R ∧ (walkJ (s.drop z.1) z.1 z.2.1 z.2.2.1).2 = B) (fun z => s.length - z.1) (0, 0, false, st)
    ⟨by simp, by simp, by simp, I0, hR, hB⟩ (by simp only [go_sem, Int.reduceEq, Int.reduceNe, Int.reduceLT, Int.reduceLE, Nat.reduceEqDiff, Nat.reduceAdd, Nat.reduceMul, Nat.reduceLT, Nat.reduceLeDiff, Nat.reduceSub, reduceCtorEq, reduceIte, Int.reduceToNat, beq_self_eq_true, Bool.and_self]) ?_)
  rintro ⟨i, d, q, σ⟩ ⟨j1, j2, j3, j4, j5, j6⟩
  have j1 : i ≤ s.length := j1
  have j2 : 0 ≤ d := j2
  have j3 : d ≤ i := j3
  have j4 : Inv σ i := j4
  have j5 : (walkJ (s.drop i) i d q).1.foldl f σ = R := j5
  have j6 : (walkJ (s.drop i) i d q).2 = B := j6
  try dsimp only
  refine vwp_seq_k fun Ne hNe => vreg tt_ok hF rfl ?_; simp only [go_sem, Int.reduceEq, Int.reduceNe, Int.reduceLT, Int.reduceLE, Nat.reduceEqDiff, Nat.reduceAdd, Nat.reduceMul, Nat.reduceLT, Nat.reduceLeDiff, Nat.reduceSub, reduceCtorEq, reduceIte, Int.reduceToNat, beq_self_eq_true, Bool.and_self]
  refine hNe _ (VWp.keep [0,1,5,6,10,11,12] [1000000,1000001,1000002,1000003] ?_); simp only [go_sem, Int.reduceEq, Int.reduceNe, Int.reduceLT, Int.reduceLE, Nat.reduceEqDiff, Nat.reduceAdd, Nat.reduceMul, Nat.reduceLT, Nat.reduceLeDiff, Nat.reduceSub, reduceCtorEq, reduceIte, Int.reduceToNat, beq_self_eq_true, Bool.and_self]
  refine vwp_seq_k fun Nf hNf => ?_
  refine vif rfl ⟨fun ht => ?_, fun hf => ?_⟩
  · have hlt : i < s.length := by have := of_decide_eq_true ht; omega
    have hvi := fun c => hv σ i c (dnJ c d) hlt
    rw [drop_at s i hlt] at j5 j6
    have hnext := fun (d' : Int) (q' : Bool) (σ' : (List Jb × Nat)) (k2 : 0 ≤ d') (k3 : d' ≤ i + 1) (k4 : Inv σ' (i + 1)) (k5 : (walkJ (s.drop (i + 1)) (i + 1) d' q').1.foldl f σ' = R) (k6 : (walkJ (s.drop (i + 1)) (i + 1) d' q').2 = B) =>
      (⟨by omega, k2, by push_cast; omega, k4, k5, k6⟩ : i + 1 ≤ s.length ∧ 0 ≤ d' ∧ d' ≤ ((i + 1 : Nat) : Int) ∧ Inv σ' (i + 1) ∧ (walkJ (s.drop (i + 1)) (i + 1) d' q').1.foldl f σ' = R ∧ (walkJ (s.drop (i + 1)) (i + 1) d' q').2 = B)
    refine vwp_skip (hNf _ ?_)
    refine vwp_seq_k fun Ng hNg => ?_
    refine vwp_block ?_
    refine vwp_seq_k fun Nh hNh => vreg tt_ok hF rfl ?_; simp only [go_sem, Int.reduceEq, Int.reduceNe, Int.reduceLT, Int.reduceLE, Nat.reduceEqDiff, Nat.reduceAdd, Nat.reduceMul, Nat.reduceLT, Nat.reduceLeDiff, Nat.reduceSub, reduceCtorEq, reduceIte, Int.reduceToNat, beq_self_eq_true, Bool.and_self]
    refine hNh _ (VWp.keepR [0,1,5,6,7,10,11] [1000000,1000001,1000002,1000003] tt_ok hF rfl fun Ni hNi => ?_); simp only [go_sem, Int.reduceEq, Int.reduceNe, Int.reduceLT, Int.reduceLE, Nat.reduceEqDiff, Nat.reduceAdd, Nat.reduceMul, Nat.reduceLT, Nat.reduceLeDiff, Nat.reduceSub, reduceCtorEq, reduceIte, Int.reduceToNat, beq_self_eq_true, Bool.and_self]
    refine ⟨⟨by omega, by omega⟩, ?_⟩
    generalize s.getD i 0 = c at j5 j6
    rw [walkJ_step] at j5 j6
    have hvi := hvi c
    refine hNi _ (VWp.keep [0,1,5,6,7,8,10,11] [1000000,1000001,1000002,1000003] ?_); simp only [go_sem, Int.reduceEq, Int.reduceNe, Int.reduceLT, Int.reduceLE, Nat.reduceEqDiff, Nat.reduceAdd, Nat.reduceMul, Nat.reduceLT, Nat.reduceLeDiff, Nat.reduceSub, reduceCtorEq, reduceIte, Int.reduceToNat, beq_self_eq_true, Bool.and_self]
    refine vwp_seq_k fun Nj hNj => ?_
    have e39 : decide (((c.toNat : Nat) : Int) = (39 : Int)) = (c == 39) := u8eq 39 c
    have e40 : decide (((c.toNat : Nat) : Int) = (40 : Int)) = (c == 40) := u8eq 40 c
    have e41 : decide (((c.toNat : Nat) : Int) = (41 : Int)) = (c == 41) := u8eq 41 c
    refine vwp_seq_k fun Nk hNk => vreg tt_ok hF rfl ?_; simp only [go_sem, Int.reduceEq, Int.reduceNe, Int.reduceLT, Int.reduceLE, Nat.reduceEqDiff, Nat.reduceAdd, Nat.reduceMul, Nat.reduceLT, Nat.reduceLeDiff, Nat.reduceSub, reduceCtorEq, reduceIte, Int.reduceToNat, beq_self_eq_true, Bool.and_self, e39]
    refine hNk _ (VWp.keep [0,1,5,6,7,8,10,11,18] [1000000,1000001,1000002,1000003] ?_); simp only [go_sem, Int.reduceEq, Int.reduceNe, Int.reduceLT, Int.reduceLE, Nat.reduceEqDiff, Nat.reduceAdd, Nat.reduceMul, Nat.reduceLT, Nat.reduceLeDiff, Nat.reduceSub, reduceCtorEq, reduceIte, Int.reduceToNat, beq_self_eq_true, Bool.and_self]
    refine vif rfl ⟨fun ht => ?_, fun hf => ?_⟩
    · rw [if_pos ht] at j5 j6
      refine vwp_seq_k fun Nl hNl => vreg tt_ok hF rfl ?_; simp only [go_sem, Int.reduceEq, Int.reduceNe, Int.reduceLT, Int.reduceLE, Nat.reduceEqDiff, Nat.reduceAdd, Nat.reduceMul, Nat.reduceLT, Nat.reduceLeDiff, Nat.reduceSub, reduceCtorEq, reduceIte, Int.reduceToNat, beq_self_eq_true, Bool.and_self]
      refine hNl _ (VWp.keep [0,1,5,6,10,11] [1000000,1000001,1000002,1000003] ?_); simp only [go_sem, Int.reduceEq, Int.reduceNe, Int.reduceLT, Int.reduceLE, Nat.reduceEqDiff, Nat.reduceAdd, Nat.reduceMul, Nat.reduceLT, Nat.reduceLeDiff, Nat.reduceSub, reduceCtorEq, reduceIte, Int.reduceToNat, beq_self_eq_true, Bool.and_self]
      refine vwp_exit ?_
      simp only [go_sem, Int.reduceEq, Int.reduceNe, Int.reduceLT, Int.reduceLE, Nat.reduceEqDiff, Nat.reduceAdd, Nat.reduceMul, Nat.reduceLT, Nat.reduceLeDiff, Nat.reduceSub, reduceCtorEq, reduceIte, Int.reduceToNat, beq_self_eq_true, Bool.and_self]
      refine hNg _ (VWp.keep [0,1,5,6,10,11] [1000000,1000001,1000002,1000003] ?_); simp only [go_sem, Int.reduceEq, Int.reduceNe, Int.reduceLT, Int.reduceLE, Nat.reduceEqDiff, Nat.reduceAdd, Nat.reduceMul, Nat.reduceLT, Nat.reduceLeDiff, Nat.reduceSub, reduceCtorEq, reduceIte, Int.reduceToNat, beq_self_eq_true, Bool.and_self]
      refine vreg tt_ok hF rfl ?_; simp only [go_sem, Int.reduceEq, Int.reduceNe, Int.reduceLT, Int.reduceLE, Nat.reduceEqDiff, Nat.reduceAdd, Nat.reduceMul, Nat.reduceLT, Nat.reduceLeDiff, Nat.reduceSub, reduceCtorEq, reduceIte, Int.reduceToNat, beq_self_eq_true, Bool.and_self]
      rw [wrap_i64 (by omega) (by omega)]
      exact ⟨(i + 1, d, !q, σ), hnext d (!q) σ j2 (by omega) (Im σ i j4) j5 j6, by simp only; omega, by simp⟩
    · rw [if_neg (by rw [hf]; simp)] at j5 j6
      refine vwp_skip (hNj _ ?_)
      refine vwp_seq_k fun Nm hNm => ?_
      refine vwp_seq_k fun Nn hNn => vreg tt_ok hF rfl ?_; simp only [go_sem, Int.reduceEq, Int.reduceNe, Int.reduceLT, Int.reduceLE, Nat.reduceEqDiff, Nat.reduceAdd, Nat.reduceMul, Nat.reduceLT, Nat.reduceLeDiff, Nat.reduceSub, reduceCtorEq, reduceIte, Int.reduceToNat, beq_self_eq_true, Bool.and_self]
      refine hNn _ (VWp.keep [0,1,5,6,7,8,10,11,21] [1000000,1000001,1000002,1000003] ?_); simp only [go_sem, Int.reduceEq, Int.reduceNe, Int.reduceLT, Int.reduceLE, Nat.reduceEqDiff, Nat.reduceAdd, Nat.reduceMul, Nat.reduceLT, Nat.reduceLeDiff, Nat.reduceSub, reduceCtorEq, reduceIte, Int.reduceToNat, beq_self_eq_true, Bool.and_self]
      refine vif rfl ⟨fun ht => ?_, fun hf => ?_⟩
      · rw [if_pos ht] at j5 j6
        refine vwp_exit ?_
        simp only [go_sem, Int.reduceEq, Int.reduceNe, Int.reduceLT, Int.reduceLE, Nat.reduceEqDiff, Nat.reduceAdd, Nat.reduceMul, Nat.reduceLT, Nat.reduceLeDiff, Nat.reduceSub, reduceCtorEq, reduceIte, Int.reduceToNat, beq_self_eq_true, Bool.and_self]
        refine hNg _ (VWp.keep [0,1,5,6,10,11] [1000000,1000001,1000002,1000003] ?_); simp only [go_sem, Int.reduceEq, Int.reduceNe, Int.reduceLT, Int.reduceLE, Nat.reduceEqDiff, Nat.reduceAdd, Nat.reduceMul, Nat.reduceLT, Nat.reduceLeDiff, Nat.reduceSub, reduceCtorEq, reduceIte, Int.reduceToNat, beq_self_eq_true, Bool.and_self]
        refine vreg tt_ok hF rfl ?_; simp only [go_sem, Int.reduceEq, Int.reduceNe, Int.reduceLT, Int.reduceLE, Nat.reduceEqDiff, Nat.reduceAdd, Nat.reduceMul, Nat.reduceLT, Nat.reduceLeDiff, Nat.reduceSub, reduceCtorEq, reduceIte, Int.reduceToNat, beq_self_eq_true, Bool.and_self]
        rw [wrap_i64 (by omega) (by omega)]
        exact ⟨(i + 1, d, q, σ), hnext d q σ j2 (by omega) (Im σ i j4) j5 j6, by simp only; omega, by simp⟩
      · rw [if_neg (by rw [hf]; simp)] at j5 j6
        refine vwp_skip (hNm _ ?_)
        refine vmeet (fun _ : Unit => [(0, .str s), (1, .fn (.func vf) [.ptr 1000000 0, .ptr 1000001 0, .ptr 1000002 0]), (5, .int .i64 (dnJ c d)), (6, .bool q), (7, .int .i64 (i : Int)), (8, .int .u8 ((c.toNat : Nat) : Int)), (10, .int .i64 (s.length : Int)), (11, .int .i64 (i : Int))]) (fun _ => [(1000000, .box 25 [.own 1000003 σ.1.length]), (1000001, .box 9 [.str S]), (1000002, .box 3 [.int .i64 (σ.2 : Int)]), (1000003, .arr 1 9 (σ.1.map fun w => [V.str w]))]) (fun _ => True) ?_ ?_
        · refine vwp_seq_k fun Np hNp => vreg tt_ok hF rfl ?_; simp only [go_sem, Int.reduceEq, Int.reduceNe, Int.reduceLT, Int.reduceLE, Nat.reduceEqDiff, Nat.reduceAdd, Nat.reduceMul, Nat.reduceLT, Nat.reduceLeDiff, Nat.reduceSub, reduceCtorEq, reduceIte, Int.reduceToNat, beq_self_eq_true, Bool.and_self, e41]
          refine hNp _ (VWp.keep [0,1,5,6,7,8,10,11,23] [1000000,1000001,1000002,1000003] ?_); simp only [go_sem, Int.reduceEq, Int.reduceNe, Int.reduceLT, Int.reduceLE, Nat.reduceEqDiff, Nat.reduceAdd, Nat.reduceMul, Nat.reduceLT, Nat.reduceLeDiff, Nat.reduceSub, reduceCtorEq, reduceIte, Int.reduceToNat, beq_self_eq_true, Bool.and_self]
          refine vif rfl ⟨fun ht => ?_, fun hf => ?_⟩
          · refine vreg tt_ok hF rfl ?_; simp only [go_sem, Int.reduceEq, Int.reduceNe, Int.reduceLT, Int.reduceLE, Nat.reduceEqDiff, Nat.reduceAdd, Nat.reduceMul, Nat.reduceLT, Nat.reduceLeDiff, Nat.reduceSub, reduceCtorEq, reduceIte, Int.reduceToNat, beq_self_eq_true, Bool.and_self]
            rw [wrap_i64 (by omega) (by omega)]
            exact ⟨(), by simp [dnJ, ht]⟩
          · refine vwp_skip ?_
            simp only [go_sem, Int.reduceEq, Int.reduceNe, Int.reduceLT, Int.reduceLE, Nat.reduceEqDiff, Nat.reduceAdd, Nat.reduceMul, Nat.reduceLT, Nat.reduceLeDiff, Nat.reduceSub, reduceCtorEq, reduceIte, Int.reduceToNat, beq_self_eq_true, Bool.and_self]
            exact ⟨(), by simp [dnJ, hf]⟩
        intro _ _
        have hd1 : dnJ c d ≤ d ∧ d - 1 ≤ dnJ c d := by unfold dnJ; split <;> omega
        have hu1 : upJ c (dnJ c d) = (if c == 40 then dnJ c d + 1 else dnJ c d) := rfl
        generalize upJ c (dnJ c d) = d3 at j5 j6 hu1
        generalize dnJ c d = d2 at j5 j6 hd1 hvi hu1
        refine vwp_seq_k fun Nq hNq => ?_
        refine vwp_seq_k fun Nr hNr => vreg tt_ok hF rfl ?_; simp only [go_sem, Int.reduceEq, Int.reduceNe, Int.reduceLT, Int.reduceLE, Nat.reduceEqDiff, Nat.reduceAdd, Nat.reduceMul, Nat.reduceLT, Nat.reduceLeDiff, Nat.reduceSub, reduceCtorEq, reduceIte, Int.reduceToNat, beq_self_eq_true, Bool.and_self]
        refine hNr _ (VWp.keep [0,1,5,6,7,8,10,11,27] [1000000,1000001,1000002,1000003] ?_); simp only [go_sem, Int.reduceEq, Int.reduceNe, Int.reduceLT, Int.reduceLE, Nat.reduceEqDiff, Nat.reduceAdd, Nat.reduceMul, Nat.reduceLT, Nat.reduceLeDiff, Nat.reduceSub, reduceCtorEq, reduceIte, Int.reduceToNat, beq_self_eq_true, Bool.and_self]
        refine vif rfl ⟨fun ht => ?_, fun hf => ?_⟩
        · rw [if_pos (of_decide_eq_true ht)] at j5 j6
          refine vwp_seq_k fun Ns hNs => vreg tt_ok hF rfl ?_; simp only [go_sem, Int.reduceEq, Int.reduceNe, Int.reduceLT, Int.reduceLE, Nat.reduceEqDiff, Nat.reduceAdd, Nat.reduceMul, Nat.reduceLT, Nat.reduceLeDiff, Nat.reduceSub, reduceCtorEq, reduceIte, Int.reduceToNat, beq_self_eq_true, Bool.and_self]
          refine hNs _ (VWp.keep [4] [1000000,1000001,1000002,1000003] ?_); simp only [go_sem, Int.reduceEq, Int.reduceNe, Int.reduceLT, Int.reduceLE, Nat.reduceEqDiff, Nat.reduceAdd, Nat.reduceMul, Nat.reduceLT, Nat.reduceLeDiff, Nat.reduceSub, reduceCtorEq, reduceIte, Int.reduceToNat, beq_self_eq_true, Bool.and_self]
          refine vwp_ret ?_
          simp only [go_sem, Int.reduceEq, Int.reduceNe, Int.reduceLT, Int.reduceLE, Nat.reduceEqDiff, Nat.reduceAdd, Nat.reduceMul, Nat.reduceLT, Nat.reduceLeDiff, Nat.reduceSub, reduceCtorEq, reduceIte, Int.reduceToNat, beq_self_eq_true, Bool.and_self]
          have j5 : σ = R := j5
          have j6 : false = B := j6
          subst j5 j6
          first | exact LeV.refl _ | exact ⟨LeV.refl _, rfl⟩ | exact ⟨LeV.refl _, rfl, rfl⟩ | exact ⟨LeV.refl _, rfl, rfl, rfl⟩
        · have hge := of_decide_eq_false hf
          rw [if_neg hge] at j5 j6
          have hvi := hvi (by omega) (by omega) j4
          refine vwp_skip (hNq _ ?_)
          refine vwp_seq_k fun Nt hNt => vreg tt_ok hF rfl ?_; simp only [go_sem, Int.reduceEq, Int.reduceNe, Int.reduceLT, Int.reduceLE, Nat.reduceEqDiff, Nat.reduceAdd, Nat.reduceMul, Nat.reduceLT, Nat.reduceLeDiff, Nat.reduceSub, reduceCtorEq, reduceIte, Int.reduceToNat, beq_self_eq_true, Bool.and_self]
          refine .inr (bxo [(1000000, 1000000), (1000001, 1000001), (1000002, 1000002), (1000003, 1000003)] rfl ?_); simp only [go_sem, Int.reduceEq, Int.reduceNe, Int.reduceLT, Int.reduceLE, Nat.reduceEqDiff, Nat.reduceAdd, Nat.reduceMul, Nat.reduceLT, Nat.reduceLeDiff, Nat.reduceSub, reduceCtorEq, reduceIte, Int.reduceToNat, beq_self_eq_true, Bool.and_self]; refine ⟨_, _, hvi, ?_⟩; try simp only [go_sem, Int.reduceEq, Int.reduceNe, Int.reduceLT, Int.reduceLE, Nat.reduceEqDiff, Nat.reduceAdd, Nat.reduceMul, Nat.reduceLT, Nat.reduceLeDiff, Nat.reduceSub, reduceCtorEq, reduceIte, Int.reduceToNat, beq_self_eq_true, Bool.and_self]
          refine hNt _ (VWp.keep [0,1,5,6,8,10,11] [1000000,1000001,1000002,1000003] ?_); simp only [go_sem, Int.reduceEq, Int.reduceNe, Int.reduceLT, Int.reduceLE, Nat.reduceEqDiff, Nat.reduceAdd, Nat.reduceMul, Nat.reduceLT, Nat.reduceLeDiff, Nat.reduceSub, reduceCtorEq, reduceIte, Int.reduceToNat, beq_self_eq_true, Bool.and_self]
          have j5 : (walkJ (s.drop (i + 1)) (i + 1) d3 q).1.foldl f (f σ (i, c, d2)) = R := j5
          have j6 : (walkJ (s.drop (i + 1)) (i + 1) d3 q).2 = B := j6
          have hIv := Iv σ i c d2 j4
          generalize f σ (i, c, d2) = σ2 at j5 hIv
          refine vwp_seq_k fun Nu hNu => vreg tt_ok hF rfl ?_; simp only [go_sem, Int.reduceEq, Int.reduceNe, Int.reduceLT, Int.reduceLE, Nat.reduceEqDiff, Nat.reduceAdd, Nat.reduceMul, Nat.reduceLT, Nat.reduceLeDiff, Nat.reduceSub, reduceCtorEq, reduceIte, Int.reduceToNat, beq_self_eq_true, Bool.and_self, e40]
          refine hNu _ (VWp.keep [0,1,5,6,10,11,34] [1000000,1000001,1000002,1000003] ?_); simp only [go_sem, Int.reduceEq, Int.reduceNe, Int.reduceLT, Int.reduceLE, Nat.reduceEqDiff, Nat.reduceAdd, Nat.reduceMul, Nat.reduceLT, Nat.reduceLeDiff, Nat.reduceSub, reduceCtorEq, reduceIte, Int.reduceToNat, beq_self_eq_true, Bool.and_self]
          refine vif rfl ⟨fun ht => ?_, fun hf => ?_⟩
          · rw [ht, if_pos rfl] at hu1
            refine vreg tt_ok hF rfl ?_; simp only [go_sem, Int.reduceEq, Int.reduceNe, Int.reduceLT, Int.reduceLE, Nat.reduceEqDiff, Nat.reduceAdd, Nat.reduceMul, Nat.reduceLT, Nat.reduceLeDiff, Nat.reduceSub, reduceCtorEq, reduceIte, Int.reduceToNat, beq_self_eq_true, Bool.and_self]
            rw [wrap_i64 (by omega) (by omega), ← hu1]
            refine hNg _ (VWp.keep [0,1,5,6,10,11] [1000000,1000001,1000002,1000003] ?_); simp only [go_sem, Int.reduceEq, Int.reduceNe, Int.reduceLT, Int.reduceLE, Nat.reduceEqDiff, Nat.reduceAdd, Nat.reduceMul, Nat.reduceLT, Nat.reduceLeDiff, Nat.reduceSub, reduceCtorEq, reduceIte, Int.reduceToNat, beq_self_eq_true, Bool.and_self]
            refine vreg tt_ok hF rfl ?_; simp only [go_sem, Int.reduceEq, Int.reduceNe, Int.reduceLT, Int.reduceLE, Nat.reduceEqDiff, Nat.reduceAdd, Nat.reduceMul, Nat.reduceLT, Nat.reduceLeDiff, Nat.reduceSub, reduceCtorEq, reduceIte, Int.reduceToNat, beq_self_eq_true, Bool.and_self]
            rw [wrap_i64 (by omega) (by omega)]
            exact ⟨(i + 1, d3, q, σ2), hnext d3 q σ2 (by omega) (by omega) hIv j5 j6, by simp only; omega, by simp⟩
          · rw [hf, if_neg (by decide)] at hu1
            rw [← hu1]
            refine vwp_skip (hNg _ ?_)
            refine VWp.keep [0,1,5,6,10,11] [1000000,1000001,1000002,1000003] ?_; simp only [go_sem, Int.reduceEq, Int.reduceNe, Int.reduceLT, Int.reduceLE, Nat.reduceEqDiff, Nat.reduceAdd, Nat.reduceMul, Nat.reduceLT, Nat.reduceLeDiff, Nat.reduceSub, reduceCtorEq, reduceIte, Int.reduceToNat, beq_self_eq_true, Bool.and_self]
            refine vreg tt_ok hF rfl ?_; simp only [go_sem, Int.reduceEq, Int.reduceNe, Int.reduceLT, Int.reduceLE, Nat.reduceEqDiff, Nat.reduceAdd, Nat.reduceMul, Nat.reduceLT, Nat.reduceLeDiff, Nat.reduceSub, reduceCtorEq, reduceIte, Int.reduceToNat, beq_self_eq_true, Bool.and_self]
            rw [wrap_i64 (by omega) (by omega)]
            exact ⟨(i + 1, d3, q, σ2), hnext d3 q σ2 (by omega) (by omega) hIv j5 j6, by simp only; omega, by simp⟩
  · have hi2 : i = s.length := by have := of_decide_eq_false hf; omega
    subst hi2
    rw [List.drop_length] at j5 j6
    have j5 : σ = R := j5
    have j6 : (d == 0 && !q) = B := j6
    subst j5
    refine vwp_exit ?_
    simp only [go_sem, Int.reduceEq, Int.reduceNe, Int.reduceLT, Int.reduceLE, Nat.reduceEqDiff, Nat.reduceAdd, Nat.reduceMul, Nat.reduceLT, Nat.reduceLeDiff, Nat.reduceSub, reduceCtorEq, reduceIte, Int.reduceToNat, beq_self_eq_true, Bool.and_self]
    refine hNc _ (VWp.keep [5,6] [1000000,1000001,1000002,1000003] ?_); simp only [go_sem, Int.reduceEq, Int.reduceNe, Int.reduceLT, Int.reduceLE, Nat.reduceEqDiff, Nat.reduceAdd, Nat.reduceMul, Nat.reduceLT, Nat.reduceLeDiff, Nat.reduceSub, reduceCtorEq, reduceIte, Int.reduceToNat, beq_self_eq_true, Bool.and_self]
    have e0 : decide (d = (0 : Int)) = (d == 0) := by by_cases h : d = 0 <;> simp [h]
    generalize (d == 0) = b0 at e0 j6
    cases b0
    all_goals
      refine vwp_seq_k fun Nv hNv => vreg tt_ok hF rfl ?_; simp only [go_sem, Int.reduceEq, Int.reduceNe, Int.reduceLT, Int.reduceLE, Nat.reduceEqDiff, Nat.reduceAdd, Nat.reduceMul, Nat.reduceLT, Nat.reduceLeDiff, Nat.reduceSub, reduceCtorEq, reduceIte, Int.reduceToNat, beq_self_eq_true, Bool.and_self, e0]
      refine hNv _ (VWp.keep [4] [1000000,1000001,1000002,1000003] ?_); simp only [go_sem, Int.reduceEq, Int.reduceNe, Int.reduceLT, Int.reduceLE, Nat.reduceEqDiff, Nat.reduceAdd, Nat.reduceMul, Nat.reduceLT, Nat.reduceLeDiff, Nat.reduceSub, reduceCtorEq, reduceIte, Int.reduceToNat, beq_self_eq_true, Bool.and_self]
      refine vwp_ret ?_
      simp only [go_sem, Int.reduceEq, Int.reduceNe, Int.reduceLT, Int.reduceLE, Nat.reduceEqDiff, Nat.reduceAdd, Nat.reduceMul, Nat.reduceLT, Nat.reduceLeDiff, Nat.reduceSub, reduceCtorEq, reduceIte, Int.reduceToNat, beq_self_eq_true, Bool.and_self]
      rw [← j6]
      first | exact LeV.refl _ | exact ⟨LeV.refl _, rfl⟩ | exact ⟨LeV.refl _, rfl, rfl⟩ | exact ⟨LeV.refl _, rfl, rfl, rfl⟩
end Go.Proofs.YtnaljgmcpagbbaaGreatDoor
