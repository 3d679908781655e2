import Derived.Outline
import Derived.Test.YtnaljgmcpagbbaaGreatDoorKC
import Derived.Test.YtnaljgmcpagbbaaGreatDoorJE
/- The laws' own functions: texts and statements compared, sizes. -/
-- SIMP: beq_self_eq_true, Bool.and_self, List.take_length
namespace Go.Proofs.YtnaljgmcpagbbaaGreatDoor
open Go.RowKit
set_option linter.unusedVariables false
set_option linter.unusedSimpArgs false
set_option maxHeartbeats 8000000 in
set_option maxRecDepth 4000 in
theorem SameTexts_spec (a : List Jb) (ha : a.length ≤ 1000000000) : Spec Tryz.prog 8 [strsV a, strsV a] (.bool true) := by
  refine spec_of tt_ok Tryz.func8 rfl (by decide) Tryz.ntmps8 (congrArg Array.toList Tryz.results8) (by simp) (by decide) rfl rfl (fun F hF => ?_)
  refine vwp_seq_k fun Na hNa => vreg tt_ok hF rfl ?_; simp only [go_sem, Int.reduceEq, Int.reduceNe, Int.reduceLT, Int.reduceLE, Nat.reduceEqDiff, Nat.reduceAdd, Nat.reduceMul, Nat.reduceLT, Nat.reduceLeDiff, Nat.reduceSub, reduceCtorEq, reduceIte, Int.reduceToNat, beq_self_eq_true, Bool.and_self, List.take_length]
  refine hNa _ (VWp.keep [0,1] [] ?_); simp only [go_sem, Int.reduceEq, Int.reduceNe, Int.reduceLT, Int.reduceLE, Nat.reduceEqDiff, Nat.reduceAdd, Nat.reduceMul, Nat.reduceLT, Nat.reduceLeDiff, Nat.reduceSub, reduceCtorEq, reduceIte, Int.reduceToNat, beq_self_eq_true, Bool.and_self, List.take_length]
  refine vwp_seq_k fun Nb hNb => ?_
  refine vwp_seq_k fun Nc hNc => vreg tt_ok hF rfl ?_; simp only [go_sem, Int.reduceEq, Int.reduceNe, Int.reduceLT, Int.reduceLE, Nat.reduceEqDiff, Nat.reduceAdd, Nat.reduceMul, Nat.reduceLT, Nat.reduceLeDiff, Nat.reduceSub, reduceCtorEq, reduceIte, Int.reduceToNat, beq_self_eq_true, Bool.and_self, List.take_length, List.length_map]
  refine hNc _ (VWp.keep [0,1,10] [] ?_); simp only [go_sem, Int.reduceEq, Int.reduceNe, Int.reduceLT, Int.reduceLE, Nat.reduceEqDiff, Nat.reduceAdd, Nat.reduceMul, Nat.reduceLT, Nat.reduceLeDiff, Nat.reduceSub, reduceCtorEq, reduceIte, Int.reduceToNat, beq_self_eq_true, Bool.and_self, List.take_length]
  refine vif rfl ⟨fun ht => (by cases ht), fun hf => ?_⟩
  refine vwp_skip (hNb _ ?_)
  refine vwp_seq_k fun Ne hNe => ?_
  refine vwp_seq_k fun Nf hNf => vreg tt_ok hF rfl ?_; simp only [go_sem, Int.reduceEq, Int.reduceNe, Int.reduceLT, Int.reduceLE, Nat.reduceEqDiff, Nat.reduceAdd, Nat.reduceMul, Nat.reduceLT, Nat.reduceLeDiff, Nat.reduceSub, reduceCtorEq, reduceIte, Int.reduceToNat, beq_self_eq_true, Bool.and_self, List.take_length]
  refine hNf _ (VWp.keep [0,1,5] [] ?_); simp only [go_sem, Int.reduceEq, Int.reduceNe, Int.reduceLT, Int.reduceLE, Nat.reduceEqDiff, Nat.reduceAdd, Nat.reduceMul, Nat.reduceLT, Nat.reduceLeDiff, Nat.reduceSub, reduceCtorEq, reduceIte, Int.reduceToNat, beq_self_eq_true, Bool.and_self, List.take_length]
  refine vwp_block (vloop (fun m : Nat => [(0, strsV a), (1, strsV a), (5, .int .i64 (m : Int))]) (fun _ => []) (fun m => m ≤ a.length) (fun m => a.length - m) 0 (Nat.zero_le _) (by simp only [go_sem, Int.reduceEq, Int.reduceNe, Int.reduceLT, Int.reduceLE, Nat.reduceEqDiff, Nat.reduceAdd, Nat.reduceMul, Nat.reduceLT, Nat.reduceLeDiff, Nat.reduceSub, reduceCtorEq, reduceIte, Int.reduceToNat, beq_self_eq_true, Bool.and_self, List.take_length]) ?_)
  intro m m1
  refine vwp_seq_k fun Ng hNg => ?_
  refine vwp_seq_k fun Nh hNh => vreg tt_ok hF rfl ?_; simp only [go_sem, Int.reduceEq, Int.reduceNe, Int.reduceLT, Int.reduceLE, Nat.reduceEqDiff, Nat.reduceAdd, Nat.reduceMul, Nat.reduceLT, Nat.reduceLeDiff, Nat.reduceSub, reduceCtorEq, reduceIte, Int.reduceToNat, beq_self_eq_true, Bool.and_self, List.take_length, List.length_map]
  refine hNh _ (VWp.keep [0,1,5,14] [] ?_); simp only [go_sem, Int.reduceEq, Int.reduceNe, Int.reduceLT, Int.reduceLE, Nat.reduceEqDiff, Nat.reduceAdd, Nat.reduceMul, Nat.reduceLT, Nat.reduceLeDiff, Nat.reduceSub, reduceCtorEq, reduceIte, Int.reduceToNat, beq_self_eq_true, Bool.and_self, List.take_length]
  refine vif rfl ⟨fun ht => ?_, fun hf => ?_⟩
  · have hlt : m < a.length := by have := of_decide_eq_true ht; omega
    obtain ⟨x, hx⟩ : ∃ x, a[m]? = some x := ⟨_, List.getElem?_eq_getElem hlt⟩
    have hr1 : (a.map fun w => [V.str w]).getD m [] = [.str x] := by simp [hx]
    have hp1 : (0 : Int) ≤ (m : Int) ∧ (m : Int) < (a.length : Int) := ⟨by omega, by omega⟩
    refine vwp_skip (hNg _ ?_)
    refine vwp_seq_k fun Ni hNi => ?_
    refine vwp_block ?_
    refine vwp_seq_k fun Nj hNj => vregd tt_ok mixed hF rfl (by kernel_rfl) (by kernel_rfl) ?_; simp only [go_sem, Int.reduceEq, Int.reduceNe, Int.reduceLT, Int.reduceLE, Nat.reduceEqDiff, Nat.reduceAdd, Nat.reduceMul, Nat.reduceLT, Nat.reduceLeDiff, Nat.reduceSub, reduceCtorEq, reduceIte, Int.reduceToNat, beq_self_eq_true, Bool.and_self, List.take_length, List.length_map, hp1, hr1]
    refine hNj _ (VWp.keep [0,1,5,25] [] ?_); simp only [go_sem, Int.reduceEq, Int.reduceNe, Int.reduceLT, Int.reduceLE, Nat.reduceEqDiff, Nat.reduceAdd, Nat.reduceMul, Nat.reduceLT, Nat.reduceLeDiff, Nat.reduceSub, reduceCtorEq, reduceIte, Int.reduceToNat, beq_self_eq_true, Bool.and_self, List.take_length]
    refine vif rfl ⟨fun ht => (by cases ht), fun hf => ?_⟩
    refine vwp_skip (hNi _ ?_)
    refine vreg tt_ok hF rfl ?_; simp only [go_sem, Int.reduceEq, Int.reduceNe, Int.reduceLT, Int.reduceLE, Nat.reduceEqDiff, Nat.reduceAdd, Nat.reduceMul, Nat.reduceLT, Nat.reduceLeDiff, Nat.reduceSub, reduceCtorEq, reduceIte, Int.reduceToNat, beq_self_eq_true, Bool.and_self, List.take_length]
    rw [wrap_i64 (by omega) (by omega)]
    exact ⟨m + 1, by omega, by omega, by simp⟩
  · refine vwp_exit ?_
    simp only [go_sem, Int.reduceEq, Int.reduceNe, Int.reduceLT, Int.reduceLE, Nat.reduceEqDiff, Nat.reduceAdd, Nat.reduceMul, Nat.reduceLT, Nat.reduceLeDiff, Nat.reduceSub, reduceCtorEq, reduceIte, Int.reduceToNat, beq_self_eq_true, Bool.and_self, List.take_length]
    refine hNe _ (VWp.keepR [] [] tt_ok hF rfl fun Nl hNl => ?_); simp only [go_sem, Int.reduceEq, Int.reduceNe, Int.reduceLT, Int.reduceLE, Nat.reduceEqDiff, Nat.reduceAdd, Nat.reduceMul, Nat.reduceLT, Nat.reduceLeDiff, Nat.reduceSub, reduceCtorEq, reduceIte, Int.reduceToNat, beq_self_eq_true, Bool.and_self, List.take_length]
    refine hNl _ (VWp.keep [4] [] ?_); simp only [go_sem, Int.reduceEq, Int.reduceNe, Int.reduceLT, Int.reduceLE, Nat.reduceEqDiff, Nat.reduceAdd, Nat.reduceMul, Nat.reduceLT, Nat.reduceLeDiff, Nat.reduceSub, reduceCtorEq, reduceIte, Int.reduceToNat, beq_self_eq_true, Bool.and_self, List.take_length]
    refine vwp_ret ?_
    simp only [go_sem, Int.reduceEq, Int.reduceNe, Int.reduceLT, Int.reduceLE, Nat.reduceEqDiff, Nat.reduceAdd, Nat.reduceMul, Nat.reduceLT, Nat.reduceLeDiff, Nat.reduceSub, reduceCtorEq, reduceIte, Int.reduceToNat, beq_self_eq_true, Bool.and_self, List.take_length]
    exact LeV.refl _
def likeS (lines : Bool) (x y : StmJ) : Prop := (lines = true → x.line = y.line) ∧ x.name = y.name ∧ x.op = y.op ∧ x.params = y.params ∧ x.data = y.data
set_option maxHeartbeats 16000000 in
set_option maxRecDepth 4000 in
theorem Same_spec (lines : Bool) (a b : List StmJ) (hl : a.length = b.length) (ha : a.length ≤ 1000000000) (h : ∀ (i : Nat) x y, a[i]? = some x → b[i]? = some y → likeS lines x y)
    (hs : ∀ s ∈ b, s.params.length ≤ 1000000000 ∧ s.data.length ≤ 1000000000 ∧ ∀ p ∈ s.params, p.parts.length ≤ 1000000000) : Spec Tryz.prog 9 [stmsV a, stmsV b, .bool lines] (.bool true) := by
  have e0 : decide ((a.length : Int) = (b.length : Int)) = true := decide_eq_true (by omega)
  refine spec_of tt_ok Tryz.func9 rfl (by decide) Tryz.ntmps9 (congrArg Array.toList Tryz.results9) (by simp) (by decide) rfl rfl (fun F hF => ?_)
  refine vwp_seq_k fun Na hNa => vreg tt_ok hF rfl ?_; simp only [go_sem, Int.reduceEq, Int.reduceNe, Int.reduceLT, Int.reduceLE, Nat.reduceEqDiff, Nat.reduceAdd, Nat.reduceMul, Nat.reduceLT, Nat.reduceLeDiff, Nat.reduceSub, reduceCtorEq, reduceIte, Int.reduceToNat, beq_self_eq_true, Bool.and_self, List.take_length]
  refine hNa _ (VWp.keep [0,1,2] [] ?_); simp only [go_sem, Int.reduceEq, Int.reduceNe, Int.reduceLT, Int.reduceLE, Nat.reduceEqDiff, Nat.reduceAdd, Nat.reduceMul, Nat.reduceLT, Nat.reduceLeDiff, Nat.reduceSub, reduceCtorEq, reduceIte, Int.reduceToNat, beq_self_eq_true, Bool.and_self, List.take_length]
  refine vwp_seq_k fun Nb hNb => ?_
  refine vwp_seq_k fun Nc hNc => vreg tt_ok hF rfl ?_; simp only [go_sem, Int.reduceEq, Int.reduceNe, Int.reduceLT, Int.reduceLE, Nat.reduceEqDiff, Nat.reduceAdd, Nat.reduceMul, Nat.reduceLT, Nat.reduceLeDiff, Nat.reduceSub, reduceCtorEq, reduceIte, Int.reduceToNat, beq_self_eq_true, Bool.and_self, List.take_length, List.length_map, e0]
  refine hNc _ (VWp.keep [0,1,2,17] [] ?_); simp only [go_sem, Int.reduceEq, Int.reduceNe, Int.reduceLT, Int.reduceLE, Nat.reduceEqDiff, Nat.reduceAdd, Nat.reduceMul, Nat.reduceLT, Nat.reduceLeDiff, Nat.reduceSub, reduceCtorEq, reduceIte, Int.reduceToNat, beq_self_eq_true, Bool.and_self, List.take_length]
  refine vif rfl ⟨fun ht => (by cases ht), fun hf => ?_⟩
  refine vwp_skip (hNb _ ?_)
  refine vwp_seq_k fun Ne hNe => ?_
  refine vwp_seq_k fun Nf hNf => vreg tt_ok hF rfl ?_; simp only [go_sem, Int.reduceEq, Int.reduceNe, Int.reduceLT, Int.reduceLE, Nat.reduceEqDiff, Nat.reduceAdd, Nat.reduceMul, Nat.reduceLT, Nat.reduceLeDiff, Nat.reduceSub, reduceCtorEq, reduceIte, Int.reduceToNat, beq_self_eq_true, Bool.and_self, List.take_length]
  refine hNf _ (VWp.keep [0,1,2,7] [] ?_); simp only [go_sem, Int.reduceEq, Int.reduceNe, Int.reduceLT, Int.reduceLE, Nat.reduceEqDiff, Nat.reduceAdd, Nat.reduceMul, Nat.reduceLT, Nat.reduceLeDiff, Nat.reduceSub, reduceCtorEq, reduceIte, Int.reduceToNat, beq_self_eq_true, Bool.and_self, List.take_length]
  refine vwp_block (vloop (fun m : Nat => [(0, stmsV a), (1, stmsV b), (2, .bool lines), (7, .int .i64 (m : Int))]) (fun _ => []) (fun m => m ≤ a.length) (fun m => a.length - m) 0 (Nat.zero_le _) (by simp only [go_sem, Int.reduceEq, Int.reduceNe, Int.reduceLT, Int.reduceLE, Nat.reduceEqDiff, Nat.reduceAdd, Nat.reduceMul, Nat.reduceLT, Nat.reduceLeDiff, Nat.reduceSub, reduceCtorEq, reduceIte, Int.reduceToNat, beq_self_eq_true, Bool.and_self, List.take_length]) ?_)
  intro m m1
  refine vwp_seq_k fun Ng hNg => ?_
  refine vwp_seq_k fun Nh hNh => vreg tt_ok hF rfl ?_; simp only [go_sem, Int.reduceEq, Int.reduceNe, Int.reduceLT, Int.reduceLE, Nat.reduceEqDiff, Nat.reduceAdd, Nat.reduceMul, Nat.reduceLT, Nat.reduceLeDiff, Nat.reduceSub, reduceCtorEq, reduceIte, Int.reduceToNat, beq_self_eq_true, Bool.and_self, List.take_length, List.length_map]
  refine hNh _ (VWp.keep [0,1,2,7,21] [] ?_); simp only [go_sem, Int.reduceEq, Int.reduceNe, Int.reduceLT, Int.reduceLE, Nat.reduceEqDiff, Nat.reduceAdd, Nat.reduceMul, Nat.reduceLT, Nat.reduceLeDiff, Nat.reduceSub, reduceCtorEq, reduceIte, Int.reduceToNat, beq_self_eq_true, Bool.and_self, List.take_length]
  refine vif rfl ⟨fun ht => ?_, fun hf => ?_⟩
  · have hlt : m < a.length := by have := of_decide_eq_true ht; omega
    obtain ⟨x, hx⟩ : ∃ x, a[m]? = some x := ⟨_, List.getElem?_eq_getElem hlt⟩
    obtain ⟨y, hy⟩ : ∃ y, b[m]? = some y := ⟨_, List.getElem?_eq_getElem (by omega)⟩
    have hr1 : (a.map stmC).getD m [] = [.int .i64 x.line, .str x.name, .str x.op, .sl 3 (x.params.map prmC), .sl 1 (x.data.map fun w => [V.str w])] := by simp [hx, stmC, prmsV, strsV]
    have hr2 : (b.map stmC).getD m [] = [.int .i64 y.line, .str y.name, .str y.op, .sl 3 (y.params.map prmC), .sl 1 (y.data.map fun w => [V.str w])] := by simp [hy, stmC, prmsV, strsV]
    have hp1 : (0 : Int) ≤ (m : Int) ∧ (m : Int) < (a.length : Int) := ⟨by omega, by omega⟩
    have hp2 : (0 : Int) ≤ (m : Int) ∧ (m : Int) < (b.length : Int) := ⟨by omega, by omega⟩
    have hlike := h m x y hx hy
    obtain ⟨hy1, hy2, hy3⟩ := hs y (List.mem_of_getElem? hy)
    obtain ⟨xl, xn, xo, xp, xd⟩ := x
    obtain ⟨yl, yn, yo, yp, yd⟩ := y
    obtain ⟨k1, k2, k3, k4, k5⟩ := hlike
    have k1 : lines = true → xl = yl := k1
    have k2 : xn = yn := k2
    have k3 : xo = yo := k3
    have k4 : xp = yp := k4
    have k5 : xd = yd := k5
    subst k2; subst k3; subst k4; subst k5
    have hy1 : xp.length ≤ 1000000000 := hy1
    have hy2 : xd.length ≤ 1000000000 := hy2
    have hy3 : ∀ p ∈ xp, p.parts.length ≤ 1000000000 := hy3
    have h1 := SameTexts_spec xd hy2
    refine vwp_skip (hNg _ ?_)
    refine vwp_seq_k fun Ni hNi => ?_
    refine vwp_block ?_
    refine vmeet (fun _ : Unit => [(0, stmsV a), (1, stmsV b), (2, .bool lines), (7, .int .i64 (m : Int)), (8, .ptr 8 0), (9, .ptr 9 0)]) (fun _ => [(8, .box 34 (stmC ⟨xl, xn, xo, xp, xd⟩)), (9, .box 34 (stmC ⟨yl, xn, xo, xp, xd⟩))]) (fun _ => True) ?_ ?_
    · refine vregord tt_ok mixed hF rfl .no [[0, 1, 2, 3, 4, 5, 6, 7, 8, 9, 10, 11], [0, 1, 2, 3, 4, 5, 6, 8, 9, 10, 7, 11], [0, 1, 2, 3, 4, 5, 8, 9, 10, 6, 7, 11]] [] (by kernel_rfl) ⟨?_, ?_, ?_, trivial⟩ <;> simp only [pickL, go_sem, Int.reduceEq, Int.reduceNe, Int.reduceLT, Int.reduceLE, Nat.reduceEqDiff, Nat.reduceAdd, Nat.reduceMul, Nat.reduceLT, Nat.reduceLeDiff, Nat.reduceSub, reduceCtorEq, reduceIte, Int.reduceToNat, beq_self_eq_true, Bool.and_self, List.take_length, List.length_map, hp1, hp2, hr1, hr2]
      all_goals exact ⟨(), by simp [stmC, prmsV, strsV, stmsV]⟩
    intro _ _
    simp only [stmC, prmsV, strsV, stmsV]
    refine vwp_seq_k fun Nk hNk => ?_
    refine vmeet (fun z : Bool => [(0, stmsV a), (1, stmsV b), (2, .bool lines), (7, .int .i64 (m : Int)), (8, .ptr 8 0), (9, .ptr 9 0), (70, .bool z)]) (fun _ => [(8, .box 34 (stmC ⟨xl, xn, xo, xp, xd⟩)), (9, .box 34 (stmC ⟨yl, xn, xo, xp, xd⟩))]) (fun z => z = false) ?_ ?_
    · cases lines
      · refine vreg tt_ok hF rfl ?_; simp only [go_sem, Int.reduceEq, Int.reduceNe, Int.reduceLT, Int.reduceLE, Nat.reduceEqDiff, Nat.reduceAdd, Nat.reduceMul, Nat.reduceLT, Nat.reduceLeDiff, Nat.reduceSub, reduceCtorEq, reduceIte, Int.reduceToNat, beq_self_eq_true, Bool.and_self, List.take_length, List.length_map, decide_true, Bool.not_true]
        refine .inl ⟨_, h1, ?_⟩; try simp only [go_sem, Int.reduceEq, Int.reduceNe, Int.reduceLT, Int.reduceLE, Nat.reduceEqDiff, Nat.reduceAdd, Nat.reduceMul, Nat.reduceLT, Nat.reduceLeDiff, Nat.reduceSub, reduceCtorEq, reduceIte, Int.reduceToNat, beq_self_eq_true, Bool.and_self, List.take_length]
        exact ⟨false, rfl, by simp [stmC, prmsV, strsV, stmsV]⟩
      · have := k1 rfl
        subst this
        refine vreg tt_ok hF rfl ?_; simp only [go_sem, Int.reduceEq, Int.reduceNe, Int.reduceLT, Int.reduceLE, Nat.reduceEqDiff, Nat.reduceAdd, Nat.reduceMul, Nat.reduceLT, Nat.reduceLeDiff, Nat.reduceSub, reduceCtorEq, reduceIte, Int.reduceToNat, beq_self_eq_true, Bool.and_self, List.take_length, List.length_map, decide_true, Bool.not_true]
        refine .inl ⟨_, h1, ?_⟩; try simp only [go_sem, Int.reduceEq, Int.reduceNe, Int.reduceLT, Int.reduceLE, Nat.reduceEqDiff, Nat.reduceAdd, Nat.reduceMul, Nat.reduceLT, Nat.reduceLeDiff, Nat.reduceSub, reduceCtorEq, reduceIte, Int.reduceToNat, beq_self_eq_true, Bool.and_self, List.take_length]
        exact ⟨false, rfl, by simp [stmC, prmsV, strsV, stmsV]⟩
    intro z hz
    subst hz
    simp only [stmC, prmsV, strsV, stmsV]
    refine vif rfl ⟨fun ht => (by cases ht), fun hf => ?_⟩
    refine vwp_skip (hNk _ ?_)
    refine vwp_seq_k fun Nn hNn => vreg tt_ok hF rfl ?_; simp only [go_sem, Int.reduceEq, Int.reduceNe, Int.reduceLT, Int.reduceLE, Nat.reduceEqDiff, Nat.reduceAdd, Nat.reduceMul, Nat.reduceLT, Nat.reduceLeDiff, Nat.reduceSub, reduceCtorEq, reduceIte, Int.reduceToNat, beq_self_eq_true, Bool.and_self, List.take_length]
    refine hNn _ (VWp.keep [0,1,2,7,8,9,10] [8,9] ?_); simp only [go_sem, Int.reduceEq, Int.reduceNe, Int.reduceLT, Int.reduceLE, Nat.reduceEqDiff, Nat.reduceAdd, Nat.reduceMul, Nat.reduceLT, Nat.reduceLeDiff, Nat.reduceSub, reduceCtorEq, reduceIte, Int.reduceToNat, beq_self_eq_true, Bool.and_self, List.take_length]
    refine vwp_block (vloop (fun q : Nat => [(0, stmsV a), (1, stmsV b), (2, .bool lines), (7, .int .i64 (m : Int)), (8, .ptr 8 0), (9, .ptr 9 0), (10, .int .i64 (q : Int))]) (fun _ => [(8, .box 34 (stmC ⟨xl, xn, xo, xp, xd⟩)), (9, .box 34 (stmC ⟨yl, xn, xo, xp, xd⟩))]) (fun q => q ≤ xp.length) (fun q => xp.length - q) 0 (Nat.zero_le _) (by simp only [go_sem, Int.reduceEq, Int.reduceNe, Int.reduceLT, Int.reduceLE, Nat.reduceEqDiff, Nat.reduceAdd, Nat.reduceMul, Nat.reduceLT, Nat.reduceLeDiff, Nat.reduceSub, reduceCtorEq, reduceIte, Int.reduceToNat, beq_self_eq_true, Bool.and_self, List.take_length]; try simp [stmC, prmsV, strsV, stmsV]) ?_)
    intro q q1
    simp only [stmC, prmsV, strsV, stmsV]
    refine vwp_seq_k fun No hNo => ?_
    refine vwp_seq_k fun Np hNp => vreg tt_ok hF rfl ?_; simp only [go_sem, Int.reduceEq, Int.reduceNe, Int.reduceLT, Int.reduceLE, Nat.reduceEqDiff, Nat.reduceAdd, Nat.reduceMul, Nat.reduceLT, Nat.reduceLeDiff, Nat.reduceSub, reduceCtorEq, reduceIte, Int.reduceToNat, beq_self_eq_true, Bool.and_self, List.take_length, List.length_map]
    refine hNp _ (VWp.keep [0,1,2,7,8,9,10,75] [8,9] ?_); simp only [go_sem, Int.reduceEq, Int.reduceNe, Int.reduceLT, Int.reduceLE, Nat.reduceEqDiff, Nat.reduceAdd, Nat.reduceMul, Nat.reduceLT, Nat.reduceLeDiff, Nat.reduceSub, reduceCtorEq, reduceIte, Int.reduceToNat, beq_self_eq_true, Bool.and_self, List.take_length]
    refine vif rfl ⟨fun ht => ?_, fun hf => ?_⟩
    · have hqlt : q < xp.length := by have := of_decide_eq_true ht; omega
      obtain ⟨p, hp⟩ : ∃ p, xp[q]? = some p := ⟨_, List.getElem?_eq_getElem hqlt⟩
      have hr3 : (xp.map prmC).getD q [] = [.str p.key, .str p.value, .sl 1 (p.parts.map fun w => [V.str w])] := by simp [hp, prmC, strsV]
      have hp3 : (0 : Int) ≤ (q : Int) ∧ (q : Int) < (xp.length : Int) := ⟨by omega, by omega⟩
      have h2 := SameTexts_spec p.parts (hy3 p (List.mem_of_getElem? hp))
      refine vwp_skip (hNo _ ?_)
      refine vwp_seq_k fun Nq hNq => ?_
      refine vwp_block ?_
      refine vmeet (fun _ : Unit => [(0, stmsV a), (1, stmsV b), (2, .bool lines), (7, .int .i64 (m : Int)), (8, .ptr 8 0), (9, .ptr 9 0), (10, .int .i64 (q : Int)), (11, .ptr 11 0), (12, .ptr 12 0)]) (fun _ => [(8, .box 34 (stmC ⟨xl, xn, xo, xp, xd⟩)), (9, .box 34 (stmC ⟨yl, xn, xo, xp, xd⟩)), (11, .box 37 (prmC p)), (12, .box 37 (prmC p))]) (fun _ => True) ?_ ?_
      · refine vregord tt_ok mixed hF rfl .no [[0, 1, 2, 3, 4, 5, 6, 7, 8, 9, 10, 11, 12, 13], [0, 1, 2, 3, 4, 5, 6, 7, 8, 10, 11, 12, 9, 13], [0, 1, 2, 3, 4, 5, 6, 7, 10, 11, 12, 8, 9, 13], [0, 1, 2, 3, 4, 5, 7, 10, 11, 12, 6, 8, 9, 13]] [] (by kernel_rfl) ⟨?_, ?_, ?_, ?_, trivial⟩ <;> simp only [pickL, go_sem, Int.reduceEq, Int.reduceNe, Int.reduceLT, Int.reduceLE, Nat.reduceEqDiff, Nat.reduceAdd, Nat.reduceMul, Nat.reduceLT, Nat.reduceLeDiff, Nat.reduceSub, reduceCtorEq, reduceIte, Int.reduceToNat, beq_self_eq_true, Bool.and_self, List.take_length, List.length_map, hp3, hr3]
        all_goals exact ⟨(), by simp [stmC, prmC, prmsV, strsV, stmsV]⟩
      intro _ _
      simp only [stmC, prmsV, strsV, stmsV, prmC]
      refine vwp_seq_k fun Ns hNs => vreg tt_ok hF rfl ?_; simp only [go_sem, Int.reduceEq, Int.reduceNe, Int.reduceLT, Int.reduceLE, Nat.reduceEqDiff, Nat.reduceAdd, Nat.reduceMul, Nat.reduceLT, Nat.reduceLeDiff, Nat.reduceSub, reduceCtorEq, reduceIte, Int.reduceToNat, beq_self_eq_true, Bool.and_self, List.take_length, List.length_map, decide_true, Bool.not_true]
      refine .inl ⟨_, h2, ?_⟩; try simp only [go_sem, Int.reduceEq, Int.reduceNe, Int.reduceLT, Int.reduceLE, Nat.reduceEqDiff, Nat.reduceAdd, Nat.reduceMul, Nat.reduceLT, Nat.reduceLeDiff, Nat.reduceSub, reduceCtorEq, reduceIte, Int.reduceToNat, beq_self_eq_true, Bool.and_self, List.take_length]
      refine hNs _ (VWp.keep [0,1,2,7,8,9,10,107] [8,9] ?_); simp only [go_sem, Int.reduceEq, Int.reduceNe, Int.reduceLT, Int.reduceLE, Nat.reduceEqDiff, Nat.reduceAdd, Nat.reduceMul, Nat.reduceLT, Nat.reduceLeDiff, Nat.reduceSub, reduceCtorEq, reduceIte, Int.reduceToNat, beq_self_eq_true, Bool.and_self, List.take_length]
      refine vif rfl ⟨fun ht => (by cases ht), fun hf => ?_⟩
      refine vwp_skip (hNq _ ?_)
      refine vreg tt_ok hF rfl ?_; simp only [go_sem, Int.reduceEq, Int.reduceNe, Int.reduceLT, Int.reduceLE, Nat.reduceEqDiff, Nat.reduceAdd, Nat.reduceMul, Nat.reduceLT, Nat.reduceLeDiff, Nat.reduceSub, reduceCtorEq, reduceIte, Int.reduceToNat, beq_self_eq_true, Bool.and_self, List.take_length]
      rw [wrap_i64 (by omega) (by omega)]
      exact ⟨q + 1, by omega, by omega, by simp [stmC, prmsV, strsV, stmsV]⟩
    · refine vwp_exit ?_
      simp only [go_sem, Int.reduceEq, Int.reduceNe, Int.reduceLT, Int.reduceLE, Nat.reduceEqDiff, Nat.reduceAdd, Nat.reduceMul, Nat.reduceLT, Nat.reduceLeDiff, Nat.reduceSub, reduceCtorEq, reduceIte, Int.reduceToNat, beq_self_eq_true, Bool.and_self, List.take_length]
      refine hNi _ (VWp.keep [0,1,2,7] [] ?_); simp only [go_sem, Int.reduceEq, Int.reduceNe, Int.reduceLT, Int.reduceLE, Nat.reduceEqDiff, Nat.reduceAdd, Nat.reduceMul, Nat.reduceLT, Nat.reduceLeDiff, Nat.reduceSub, reduceCtorEq, reduceIte, Int.reduceToNat, beq_self_eq_true, Bool.and_self, List.take_length]
      refine vreg tt_ok hF rfl ?_; simp only [go_sem, Int.reduceEq, Int.reduceNe, Int.reduceLT, Int.reduceLE, Nat.reduceEqDiff, Nat.reduceAdd, Nat.reduceMul, Nat.reduceLT, Nat.reduceLeDiff, Nat.reduceSub, reduceCtorEq, reduceIte, Int.reduceToNat, beq_self_eq_true, Bool.and_self, List.take_length]
      rw [wrap_i64 (by omega) (by omega)]
      exact ⟨m + 1, by omega, by omega, by simp⟩
  · refine vwp_exit ?_
    simp only [go_sem, Int.reduceEq, Int.reduceNe, Int.reduceLT, Int.reduceLE, Nat.reduceEqDiff, Nat.reduceAdd, Nat.reduceMul, Nat.reduceLT, Nat.reduceLeDiff, Nat.reduceSub, reduceCtorEq, reduceIte, Int.reduceToNat, beq_self_eq_true, Bool.and_self, List.take_length]
    refine hNe _ (VWp.keepR [] [] tt_ok hF rfl fun Nu hNu => ?_); simp only [go_sem, Int.reduceEq, Int.reduceNe, Int.reduceLT, Int.reduceLE, Nat.reduceEqDiff, Nat.reduceAdd, Nat.reduceMul, Nat.reduceLT, Nat.reduceLeDiff, Nat.reduceSub, reduceCtorEq, reduceIte, Int.reduceToNat, beq_self_eq_true, Bool.and_self, List.take_length]
    refine hNu _ (VWp.keep [6] [] ?_); simp only [go_sem, Int.reduceEq, Int.reduceNe, Int.reduceLT, Int.reduceLE, Nat.reduceEqDiff, Nat.reduceAdd, Nat.reduceMul, Nat.reduceLT, Nat.reduceLeDiff, Nat.reduceSub, reduceCtorEq, reduceIte, Int.reduceToNat, beq_self_eq_true, Bool.and_self, List.take_length]
    refine vwp_ret ?_
    simp only [go_sem, Int.reduceEq, Int.reduceNe, Int.reduceLT, Int.reduceLE, Nat.reduceEqDiff, Nat.reduceAdd, Nat.reduceMul, Nat.reduceLT, Nat.reduceLeDiff, Nat.reduceSub, reduceCtorEq, reduceIte, Int.reduceToNat, beq_self_eq_true, Bool.and_self, List.take_length]
    exact LeV.refl _
def bigJ (l : List Jb) : Bool := (l.take 60).any (fun x => !decide (x.length ≤ 300)) || !decide (l.length ≤ 60)
theorem bigJ_no {l : List Jb} (h : bigJ l = false) : l.length ≤ 60 ∧ ∀ x ∈ l, x.length ≤ 300 := by
  unfold bigJ at h
  rw [Bool.or_eq_false_iff] at h
  obtain ⟨h1, h2⟩ := h
  have hl : l.length ≤ 60 := by simpa using h2
  refine ⟨hl, fun x hx => ?_⟩
  rw [List.take_of_length_le hl, List.any_eq_false] at h1
  simpa using h1 x hx
theorem any_take_succ {α : Type} (p : α → Bool) (l : List α) (m : Nat) (x : α) (h : l[m]? = some x) : (l.take (m + 1)).any p = ((l.take m).any p || p x) := by
  rw [List.take_add_one, List.any_append, h]; simp
set_option maxHeartbeats 8000000 in
set_option maxRecDepth 4000 in
theorem Big_spec (l : List Jb) : Spec Tryz.prog 11 [strsV l] (.bool (bigJ l)) := by
  obtain ⟨R, hR⟩ : ∃ R, bigJ l = R := ⟨_, rfl⟩
  rw [hR]
  refine spec_of tt_ok Tryz.func11 rfl (by decide) Tryz.ntmps11 (congrArg Array.toList Tryz.results11) (by simp) (by decide) rfl rfl (fun F hF => ?_)
  refine vwp_seq_k fun Na hNa => vreg tt_ok hF rfl ?_; simp only [go_sem, Int.reduceEq, Int.reduceNe, Int.reduceLT, Int.reduceLE, Nat.reduceEqDiff, Nat.reduceAdd, Nat.reduceMul, Nat.reduceLT, Nat.reduceLeDiff, Nat.reduceSub, reduceCtorEq, reduceIte, Int.reduceToNat, beq_self_eq_true, Bool.and_self, List.take_length]
  refine hNa _ (VWp.keep [0] [] ?_); simp only [go_sem, Int.reduceEq, Int.reduceNe, Int.reduceLT, Int.reduceLE, Nat.reduceEqDiff, Nat.reduceAdd, Nat.reduceMul, Nat.reduceLT, Nat.reduceLeDiff, Nat.reduceSub, reduceCtorEq, reduceIte, Int.reduceToNat, beq_self_eq_true, Bool.and_self, List.take_length]
  refine vwp_seq_k fun Nb hNb => ?_
  refine vwp_seq_k fun Nc hNc => vreg tt_ok hF rfl ?_; simp only [go_sem, Int.reduceEq, Int.reduceNe, Int.reduceLT, Int.reduceLE, Nat.reduceEqDiff, Nat.reduceAdd, Nat.reduceMul, Nat.reduceLT, Nat.reduceLeDiff, Nat.reduceSub, reduceCtorEq, reduceIte, Int.reduceToNat, beq_self_eq_true, Bool.and_self, List.take_length]
  refine hNc _ (VWp.keep [0,3] [] ?_); simp only [go_sem, Int.reduceEq, Int.reduceNe, Int.reduceLT, Int.reduceLE, Nat.reduceEqDiff, Nat.reduceAdd, Nat.reduceMul, Nat.reduceLT, Nat.reduceLeDiff, Nat.reduceSub, reduceCtorEq, reduceIte, Int.reduceToNat, beq_self_eq_true, Bool.and_self, List.take_length]
  refine vwp_block (vloop (fun m : Nat => [(0, strsV l), (3, .int .i64 (m : Int))]) (fun _ => []) (fun m => m ≤ l.length ∧ m ≤ 60 ∧ (l.take m).any (fun x => !decide (x.length ≤ 300)) = false) (fun m => 60 - m) 0 ⟨Nat.zero_le _, Nat.zero_le _, by simp⟩ (by simp only [go_sem, Int.reduceEq, Int.reduceNe, Int.reduceLT, Int.reduceLE, Nat.reduceEqDiff, Nat.reduceAdd, Nat.reduceMul, Nat.reduceLT, Nat.reduceLeDiff, Nat.reduceSub, reduceCtorEq, reduceIte, Int.reduceToNat, beq_self_eq_true, Bool.and_self, List.take_length]) ?_)
  rintro m ⟨m1, m2, m3⟩
  refine vwp_seq_k fun Nd hNd => ?_
  refine vmeet (fun z : Bool => [(0, strsV l), (3, .int .i64 (m : Int)), (11, .bool z)]) (fun _ => []) (fun z => z = (decide (m < l.length) && decide (m < 60))) ?_ ?_
  · have e1 : decide ((m : Int) < (l.length : Int)) = decide (m < l.length) := by apply decide_eq_decide.2; omega
    have e2 : decide ((m : Int) < (60 : Int)) = decide (m < 60) := by apply decide_eq_decide.2; omega
    generalize decide (m < l.length) = b1 at e1 ⊢
    generalize decide (m < 60) = b2 at e2 ⊢
    cases b1
    · refine vreg tt_ok hF rfl ?_; simp only [go_sem, Int.reduceEq, Int.reduceNe, Int.reduceLT, Int.reduceLE, Nat.reduceEqDiff, Nat.reduceAdd, Nat.reduceMul, Nat.reduceLT, Nat.reduceLeDiff, Nat.reduceSub, reduceCtorEq, reduceIte, Int.reduceToNat, beq_self_eq_true, Bool.and_self, List.take_length, List.length_map, e1]
      exact ⟨false, rfl, by simp⟩
    · refine vreg tt_ok hF rfl ?_; simp only [go_sem, Int.reduceEq, Int.reduceNe, Int.reduceLT, Int.reduceLE, Nat.reduceEqDiff, Nat.reduceAdd, Nat.reduceMul, Nat.reduceLT, Nat.reduceLeDiff, Nat.reduceSub, reduceCtorEq, reduceIte, Int.reduceToNat, beq_self_eq_true, Bool.and_self, List.take_length, List.length_map, e1, e2]
      exact ⟨b2, by simp, by simp⟩
  intro z hz
  refine vif rfl ⟨fun ht => ?_, fun hf => ?_⟩
  · rw [ht] at hz
    have hz := hz.symm
    rw [Bool.and_eq_true, decide_eq_true_eq, decide_eq_true_eq] at hz
    obtain ⟨z1, z2⟩ := hz
    obtain ⟨x, hx⟩ : ∃ x, l[m]? = some x := ⟨_, List.getElem?_eq_getElem z1⟩
    have hr1 : (l.map fun w => [V.str w]).getD m [] = [.str x] := by simp [hx]
    have hp1 : (0 : Int) ≤ (m : Int) ∧ (m : Int) < (l.length : Int) := ⟨by omega, by omega⟩
    have e3 : decide ((300 : Int) < (x.length : Int)) = !decide (x.length ≤ 300) := by
      by_cases h : x.length ≤ 300
      · rw [decide_eq_false (by omega), decide_eq_true h]; rfl
      · rw [decide_eq_true (by omega), decide_eq_false h]; rfl
    refine vwp_skip (hNd _ ?_)
    refine vwp_seq_k fun Nf hNf => ?_
    refine vwp_block ?_
    refine vwp_seq_k fun Ng hNg => vreg tt_ok hF rfl ?_; simp only [go_sem, Int.reduceEq, Int.reduceNe, Int.reduceLT, Int.reduceLE, Nat.reduceEqDiff, Nat.reduceAdd, Nat.reduceMul, Nat.reduceLT, Nat.reduceLeDiff, Nat.reduceSub, reduceCtorEq, reduceIte, Int.reduceToNat, beq_self_eq_true, Bool.and_self, List.take_length, List.length_map, hp1, hr1, e3]
    refine hNg _ (VWp.keep [0,3,19] [] ?_); simp only [go_sem, Int.reduceEq, Int.reduceNe, Int.reduceLT, Int.reduceLE, Nat.reduceEqDiff, Nat.reduceAdd, Nat.reduceMul, Nat.reduceLT, Nat.reduceLeDiff, Nat.reduceSub, reduceCtorEq, reduceIte, Int.reduceToNat, beq_self_eq_true, Bool.and_self, List.take_length]
    cases hb : decide (x.length ≤ 300)
    · refine vif rfl ⟨fun ht => ?_, fun hf => (by cases hf)⟩
      have hRt : R = true := by
        rw [← hR]
        unfold bigJ
        rw [List.any_eq_true.2 ⟨x, ?_, by rw [hb]; rfl⟩]; · rfl
        exact List.mem_iff_getElem?.2 ⟨m, by rw [List.getElem?_take, if_pos z2, hx]⟩
      subst hRt
      refine vwp_seq_k fun Nh hNh => vreg tt_ok hF rfl ?_; simp only [go_sem, Int.reduceEq, Int.reduceNe, Int.reduceLT, Int.reduceLE, Nat.reduceEqDiff, Nat.reduceAdd, Nat.reduceMul, Nat.reduceLT, Nat.reduceLeDiff, Nat.reduceSub, reduceCtorEq, reduceIte, Int.reduceToNat, beq_self_eq_true, Bool.and_self, List.take_length]
      refine hNh _ (VWp.keep [2] [] ?_); simp only [go_sem, Int.reduceEq, Int.reduceNe, Int.reduceLT, Int.reduceLE, Nat.reduceEqDiff, Nat.reduceAdd, Nat.reduceMul, Nat.reduceLT, Nat.reduceLeDiff, Nat.reduceSub, reduceCtorEq, reduceIte, Int.reduceToNat, beq_self_eq_true, Bool.and_self, List.take_length]
      refine vwp_ret ?_
      simp only [go_sem, Int.reduceEq, Int.reduceNe, Int.reduceLT, Int.reduceLE, Nat.reduceEqDiff, Nat.reduceAdd, Nat.reduceMul, Nat.reduceLT, Nat.reduceLeDiff, Nat.reduceSub, reduceCtorEq, reduceIte, Int.reduceToNat, beq_self_eq_true, Bool.and_self, List.take_length]
      exact LeV.refl _
    · refine vif rfl ⟨fun ht => (by cases ht), fun hf => ?_⟩
      refine vwp_skip (hNf _ ?_)
      refine vreg tt_ok hF rfl ?_; simp only [go_sem, Int.reduceEq, Int.reduceNe, Int.reduceLT, Int.reduceLE, Nat.reduceEqDiff, Nat.reduceAdd, Nat.reduceMul, Nat.reduceLT, Nat.reduceLeDiff, Nat.reduceSub, reduceCtorEq, reduceIte, Int.reduceToNat, beq_self_eq_true, Bool.and_self, List.take_length]
      rw [wrap_i64 (by omega) (by omega)]
      exact ⟨m + 1, ⟨by omega, by omega, by rw [any_take_succ _ _ _ _ hx, m3, hb]; rfl⟩, by omega, by simp⟩
  · have hlen : l.take 60 = l.take m := by
      rw [hf] at hz
      have hz := hz.symm
      rw [Bool.and_eq_false_iff, decide_eq_false_iff_not, decide_eq_false_iff_not] at hz
      rcases hz with h | h
      · rw [List.take_of_length_le (by omega), List.take_of_length_le (by omega)]
      · rw [show m = 60 by omega]
    have hRe : R = !decide (l.length ≤ 60) := by rw [← hR]; unfold bigJ; rw [hlen, m3]; rfl
    have e4 : decide ((60 : Int) < (l.length : Int)) = !decide (l.length ≤ 60) := by
      by_cases h : l.length ≤ 60
      · rw [decide_eq_false (by omega), decide_eq_true h]; rfl
      · rw [decide_eq_true (by omega), decide_eq_false h]; rfl
    rw [← hRe] at e4
    refine vwp_exit ?_
    simp only [go_sem, Int.reduceEq, Int.reduceNe, Int.reduceLT, Int.reduceLE, Nat.reduceEqDiff, Nat.reduceAdd, Nat.reduceMul, Nat.reduceLT, Nat.reduceLeDiff, Nat.reduceSub, reduceCtorEq, reduceIte, Int.reduceToNat, beq_self_eq_true, Bool.and_self, List.take_length]
    refine hNb _ (VWp.keep [0] [] ?_); simp only [go_sem, Int.reduceEq, Int.reduceNe, Int.reduceLT, Int.reduceLE, Nat.reduceEqDiff, Nat.reduceAdd, Nat.reduceMul, Nat.reduceLT, Nat.reduceLeDiff, Nat.reduceSub, reduceCtorEq, reduceIte, Int.reduceToNat, beq_self_eq_true, Bool.and_self, List.take_length]
    refine vwp_seq_k fun Ni hNi => vreg tt_ok hF rfl ?_; simp only [go_sem, Int.reduceEq, Int.reduceNe, Int.reduceLT, Int.reduceLE, Nat.reduceEqDiff, Nat.reduceAdd, Nat.reduceMul, Nat.reduceLT, Nat.reduceLeDiff, Nat.reduceSub, reduceCtorEq, reduceIte, Int.reduceToNat, beq_self_eq_true, Bool.and_self, List.take_length, List.length_map, e4]
    refine hNi _ (VWp.keep [2] [] ?_); simp only [go_sem, Int.reduceEq, Int.reduceNe, Int.reduceLT, Int.reduceLE, Nat.reduceEqDiff, Nat.reduceAdd, Nat.reduceMul, Nat.reduceLT, Nat.reduceLeDiff, Nat.reduceSub, reduceCtorEq, reduceIte, Int.reduceToNat, beq_self_eq_true, Bool.and_self, List.take_length]
    refine vwp_ret ?_
    simp only [go_sem, Int.reduceEq, Int.reduceNe, Int.reduceLT, Int.reduceLE, Nat.reduceEqDiff, Nat.reduceAdd, Nat.reduceMul, Nat.reduceLT, Nat.reduceLeDiff, Nat.reduceSub, reduceCtorEq, reduceIte, Int.reduceToNat, beq_self_eq_true, Bool.and_self, List.take_length]
    exact LeV.refl _
end Go.Proofs.YtnaljgmcpagbbaaGreatDoor
