import Derived.Outline
import Derived.Test.YtldkmclfhjcicaaDoorWK
import Derived.Test.YtldkmclfhjcicaaDoorWA
import Derived.Test.YtldkmclfhjcicaaDoorRdr
/- The program's Decode; the law's equal. -/
-- SIMP: beq_self_eq_true, Bool.and_self, rdO, fnO
namespace Go.Proofs.YtldkmclfhjcicaaDoor
open Go.RowKit
set_option linter.unusedVariables false
set_option linter.unusedSimpArgs false
/-- the reader's two variables -/
def rdO (st : Rd) : List (Nat × Ob) := [(1000000, .box 4 [.bool st.1]), (1000001, .box 22 [.sl 1 (bytesR st.2)])]
/-- the variables that hold the functions take and one -/
def fnO : List (Nat × Ob) := [(1000002, .box 117 [.fn (.func 69) [.ptr 1000000 0, .ptr 1000001 0]]), (1000003, .box 118 [.fn (.func 70) [.ptr 1000002 0]])]
theorem bytesR_rep (n : Nat) : List.replicate n [V.int .u8 0] = bytesR (List.replicate n 0) := by unfold bytesR; rw [List.map_replicate]; rfl
theorem bytesR_take (b : Bs) (n : Nat) : (bytesR b).take n = bytesR (b.take n) := by unfold bytesR; rw [List.map_take]
theorem bytesR_drop (b : Bs) (n : Nat) : (bytesR b).drop n = bytesR (b.drop n) := by unfold bytesR; rw [List.map_drop]
theorem takeR_t (b : Bs) (n : Nat) : takeR (true, b) n = (List.replicate n 0, (true, b)) := by simp [takeR]
theorem takeR_s {b : Bs} {n : Nat} (h : b.length < n) : takeR (false, b) n = (List.replicate n 0, (true, b)) := by simp [takeR, h]
theorem takeR_l {b : Bs} {n : Nat} (h : n ≤ b.length) : takeR (false, b) n = (b.take n, (false, b.drop n)) := by
  have : ¬ b.length < n := by omega
  simp [takeR, this]
set_option maxHeartbeats 4000000 in
set_option maxRecDepth 4000 in
theorem take_specB (st : Rd) (n : Nat) (hn : n ≤ 255) (hb : st.2.length ≤ 9223372036854775807) :
    SpecB Tryd.prog 69 [.int .i64 (n : Int), .ptr 1000000 0, .ptr 1000001 0] (rdO st) (.sl 1 (bytesR (takeR st n).1)) (rdO (takeR st n).2) := by
  obtain ⟨q, b⟩ := st
  have hb : b.length ≤ 9223372036854775807 := hb
  have bad : ∀ q', q' = true ∨ b.length < n → takeR (q', b) n = (List.replicate n 0, (true, b)) := fun q' h => by
    rcases h with rfl | h
    · exact takeR_t b n
    · cases q'
      · exact takeR_s h
      · exact takeR_t b n
  refine specB_of tt_ok Tryd.func69 rfl (by decide) Tryd.ntmps69 (congrArg Array.toList Tryd.results69) (by simp) (by decide) rfl (by simp only [go_sem, Int.reduceEq, Int.reduceNe, Int.reduceLT, Int.reduceLE, Nat.reduceEqDiff, Nat.reduceAdd, Nat.reduceMul, Nat.reduceLT, Nat.reduceLeDiff, Nat.reduceSub, reduceCtorEq, reduceIte, Int.reduceToNat, beq_self_eq_true, Bool.and_self, rdO, fnO]) (fun F hF => ?_)
  refine vwp_seq_k fun Na hNa => vreg tt_ok hF rfl ?_; simp only [go_sem, Int.reduceEq, Int.reduceNe, Int.reduceLT, Int.reduceLE, Nat.reduceEqDiff, Nat.reduceAdd, Nat.reduceMul, Nat.reduceLT, Nat.reduceLeDiff, Nat.reduceSub, reduceCtorEq, reduceIte, Int.reduceToNat, beq_self_eq_true, Bool.and_self, rdO, fnO]
  refine hNa _ (VWp.keep [0,1,2] [1000000,1000001] ?_); simp only [go_sem, Int.reduceEq, Int.reduceNe, Int.reduceLT, Int.reduceLE, Nat.reduceEqDiff, Nat.reduceAdd, Nat.reduceMul, Nat.reduceLT, Nat.reduceLeDiff, Nat.reduceSub, reduceCtorEq, reduceIte, Int.reduceToNat, beq_self_eq_true, Bool.and_self, rdO, fnO]
  refine vwp_seq_k fun Nb hNb => ?_
  refine vmeet (fun z : Bool => [(0, .int .i64 (n : Int)), (1, .ptr 1000000 0), (2, .ptr 1000001 0), (12, .bool z)]) (fun _ => [(1000000, .box 4 [.bool q]), (1000001, .box 22 [.sl 1 (bytesR b)])]) (fun z => z = (q || decide (b.length < n))) ?_ ?_
  · cases q
    · have f1 : decide (((bytesR b).length : Int) < (n : Int)) = decide (b.length < n) := by rw [bytesR_len]; apply decide_eq_decide.2; omega
      refine vreg tt_ok hF rfl ?_; simp only [go_sem, Int.reduceEq, Int.reduceNe, Int.reduceLT, Int.reduceLE, Nat.reduceEqDiff, Nat.reduceAdd, Nat.reduceMul, Nat.reduceLT, Nat.reduceLeDiff, Nat.reduceSub, reduceCtorEq, reduceIte, Int.reduceToNat, beq_self_eq_true, Bool.and_self, rdO, fnO, f1]
      exact ⟨_, rfl, by simp⟩
    · refine vreg tt_ok hF rfl ?_; simp only [go_sem, Int.reduceEq, Int.reduceNe, Int.reduceLT, Int.reduceLE, Nat.reduceEqDiff, Nat.reduceAdd, Nat.reduceMul, Nat.reduceLT, Nat.reduceLeDiff, Nat.reduceSub, reduceCtorEq, reduceIte, Int.reduceToNat, beq_self_eq_true, Bool.and_self, rdO, fnO]
      exact ⟨_, rfl, by simp⟩
  intro z hz
  refine vif rfl ⟨fun ht => ?_, fun hf => ?_⟩
  · have hbd : q = true ∨ b.length < n := by rw [ht] at hz; simpa using hz.symm
    rw [bad q hbd]
    refine vwp_seq_k fun Nd hNd => vreg tt_ok hF rfl ?_; simp only [go_sem, Int.reduceEq, Int.reduceNe, Int.reduceLT, Int.reduceLE, Nat.reduceEqDiff, Nat.reduceAdd, Nat.reduceMul, Nat.reduceLT, Nat.reduceLeDiff, Nat.reduceSub, reduceCtorEq, reduceIte, Int.reduceToNat, beq_self_eq_true, Bool.and_self, rdO, fnO]
    refine hNd _ (VWp.keepR [0] [1000000,1000001] tt_ok hF rfl fun Ne hNe => ?_); simp only [go_sem, Int.reduceEq, Int.reduceNe, Int.reduceLT, Int.reduceLE, Nat.reduceEqDiff, Nat.reduceAdd, Nat.reduceMul, Nat.reduceLT, Nat.reduceLeDiff, Nat.reduceSub, reduceCtorEq, reduceIte, Int.reduceToNat, beq_self_eq_true, Bool.and_self, rdO, fnO]
    refine ⟨⟨by omega, by omega, by omega⟩, ?_⟩
    refine hNe _ (VWp.keep [4] [14,1000000,1000001] ?_); simp only [go_sem, Int.reduceEq, Int.reduceNe, Int.reduceLT, Int.reduceLE, Nat.reduceEqDiff, Nat.reduceAdd, Nat.reduceMul, Nat.reduceLT, Nat.reduceLeDiff, Nat.reduceSub, reduceCtorEq, reduceIte, Int.reduceToNat, beq_self_eq_true, Bool.and_self, rdO, fnO]
    refine ⟨by simp, ?_⟩
    refine vwp_ret ?_
    simp only [go_sem, Int.reduceEq, Int.reduceNe, Int.reduceLT, Int.reduceLE, Nat.reduceEqDiff, Nat.reduceAdd, Nat.reduceMul, Nat.reduceLT, Nat.reduceLeDiff, Nat.reduceSub, reduceCtorEq, reduceIte, Int.reduceToNat, beq_self_eq_true, Bool.and_self, rdO, fnO, List.length_replicate]
    exact LeV.of_eq (by rw [bytesR_rep])
  · have hgd : q = false ∧ n ≤ b.length := by rw [hf] at hz; simpa using hz.symm
    obtain ⟨rfl, hgl⟩ := hgd
    refine vwp_skip (hNb _ ?_)
    refine vwp_seq_k fun Nf hNf => vreg tt_ok hF rfl ?_; simp only [go_sem, Int.reduceEq, Int.reduceNe, Int.reduceLT, Int.reduceLE, Nat.reduceEqDiff, Nat.reduceAdd, Nat.reduceMul, Nat.reduceLT, Nat.reduceLeDiff, Nat.reduceSub, reduceCtorEq, reduceIte, Int.reduceToNat, beq_self_eq_true, Bool.and_self, rdO, fnO]
    refine ⟨⟨by omega, by rw [bytesR_len]; omega⟩, ?_⟩
    refine hNf _ (VWp.keepR [0,2,5] [1000000,1000001] tt_ok hF rfl fun Ng hNg => ?_); simp only [go_sem, Int.reduceEq, Int.reduceNe, Int.reduceLT, Int.reduceLE, Nat.reduceEqDiff, Nat.reduceAdd, Nat.reduceMul, Nat.reduceLT, Nat.reduceLeDiff, Nat.reduceSub, reduceCtorEq, reduceIte, Int.reduceToNat, beq_self_eq_true, Bool.and_self, rdO, fnO]
    refine ⟨⟨by omega, by rw [bytesR_len]; omega⟩, ?_⟩
    refine hNg _ (VWp.keepR [5] [1000000,1000001] tt_ok hF rfl fun Nh hNh => ?_); simp only [go_sem, Int.reduceEq, Int.reduceNe, Int.reduceLT, Int.reduceLE, Nat.reduceEqDiff, Nat.reduceAdd, Nat.reduceMul, Nat.reduceLT, Nat.reduceLeDiff, Nat.reduceSub, reduceCtorEq, reduceIte, Int.reduceToNat, beq_self_eq_true, Bool.and_self, rdO, fnO]
    refine hNh _ (VWp.keep [4] [1000000,1000001] ?_); simp only [go_sem, Int.reduceEq, Int.reduceNe, Int.reduceLT, Int.reduceLE, Nat.reduceEqDiff, Nat.reduceAdd, Nat.reduceMul, Nat.reduceLT, Nat.reduceLeDiff, Nat.reduceSub, reduceCtorEq, reduceIte, Int.reduceToNat, beq_self_eq_true, Bool.and_self, rdO, fnO]
    refine vwp_ret ?_
    simp only [go_sem, Int.reduceEq, Int.reduceNe, Int.reduceLT, Int.reduceLE, Nat.reduceEqDiff, Nat.reduceAdd, Nat.reduceMul, Nat.reduceLT, Nat.reduceLeDiff, Nat.reduceSub, reduceCtorEq, reduceIte, Int.reduceToNat, beq_self_eq_true, Bool.and_self, rdO, fnO, takeR_l hgl]
    refine ⟨LeV.of_eq (by rw [bytesR_take]), ?_⟩
    rw [show (bytesR b).length = b.length from bytesR_len b, List.take_of_length_le (by rw [bytesR_len]; omega), bytesR_drop]
theorem takeR_len (st : Rd) (n : Nat) : (takeR st n).2.2.length ≤ st.2.length := by
  unfold takeR; split <;> simp
theorem takeR_one (st : Rd) : ∃ x, (takeR st 1).1 = [x] := by
  unfold takeR
  split
  · exact ⟨0, rfl⟩
  · rename_i h
    obtain ⟨q, b⟩ := st
    cases b with
    | nil => simp at h
    | cons x t => exact ⟨x, rfl⟩
theorem oneR_lt (st : Rd) : (oneR st).1 < 256 := by
  unfold oneR
  exact UInt8.toNat_lt _
theorem oneR_len (st : Rd) : (oneR st).2.2.length ≤ st.2.length := takeR_len st 1
set_option maxHeartbeats 4000000 in
set_option maxRecDepth 4000 in
theorem one_specB (st : Rd) (hb : st.2.length ≤ 9223372036854775807) :
    SpecB Tryd.prog 70 [.ptr 1000002 0] (rdO st ++ fnO) (.int .i64 ((oneR st).1 : Int)) (rdO (oneR st).2 ++ fnO) := by
  obtain ⟨x, hx⟩ := takeR_one st
  have h1 : (oneR st).1 = x.toNat := by unfold oneR; rw [hx]; rfl
  have hx8 : x.toNat < 256 := x.toNat_lt
  have hs := take_specB st 1 (by omega) hb
  rw [hx] at hs
  rw [h1]
  unfold oneR
  generalize (takeR st 1).2 = st2 at hs
  obtain ⟨q, b⟩ := st
  obtain ⟨q2, b2⟩ := st2
  simp only [rdO, bytesR, List.map_cons, List.map_nil] at hs
  refine specB_of tt_ok Tryd.func70 rfl (by decide) Tryd.ntmps70 (congrArg Array.toList Tryd.results70) (by simp) (by decide) rfl (by simp only [go_sem, Int.reduceEq, Int.reduceNe, Int.reduceLT, Int.reduceLE, Nat.reduceEqDiff, Nat.reduceAdd, Nat.reduceMul, Nat.reduceLT, Nat.reduceLeDiff, Nat.reduceSub, reduceCtorEq, reduceIte, Int.reduceToNat, beq_self_eq_true, Bool.and_self, rdO, fnO]) (fun F hF => ?_)
  refine vwp_seq_k fun Na hNa => vreg tt_ok hF rfl ?_; simp only [go_sem, Int.reduceEq, Int.reduceNe, Int.reduceLT, Int.reduceLE, Nat.reduceEqDiff, Nat.reduceAdd, Nat.reduceMul, Nat.reduceLT, Nat.reduceLeDiff, Nat.reduceSub, reduceCtorEq, reduceIte, Int.reduceToNat, beq_self_eq_true, Bool.and_self, rdO, fnO]
  refine hNa _ (VWp.keepR [0] [1000000,1000001,1000002,1000003] tt_ok hF rfl fun Nb hNb => ?_); simp only [go_sem, Int.reduceEq, Int.reduceNe, Int.reduceLT, Int.reduceLE, Nat.reduceEqDiff, Nat.reduceAdd, Nat.reduceMul, Nat.reduceLT, Nat.reduceLeDiff, Nat.reduceSub, reduceCtorEq, reduceIte, Int.reduceToNat, beq_self_eq_true, Bool.and_self, rdO, fnO]
  refine .inr (bxo [(1000000, 1000000), (1000001, 1000001)] rfl ?_); simp only [go_sem, Int.reduceEq, Int.reduceNe, Int.reduceLT, Int.reduceLE, Nat.reduceEqDiff, Nat.reduceAdd, Nat.reduceMul, Nat.reduceLT, Nat.reduceLeDiff, Nat.reduceSub, reduceCtorEq, reduceIte, Int.reduceToNat, beq_self_eq_true, Bool.and_self, rdO, fnO]; refine ⟨_, _, hs, ?_⟩; try simp only [go_sem, Int.reduceEq, Int.reduceNe, Int.reduceLT, Int.reduceLE, Nat.reduceEqDiff, Nat.reduceAdd, Nat.reduceMul, Nat.reduceLT, Nat.reduceLeDiff, Nat.reduceSub, reduceCtorEq, reduceIte, Int.reduceToNat, beq_self_eq_true, Bool.and_self, rdO, fnO]
  rw [wrap_i64 (by omega) (by omega)]
  refine hNb _ (VWp.keep [1] [1000000,1000001,1000002,1000003] ?_); simp only [go_sem, Int.reduceEq, Int.reduceNe, Int.reduceLT, Int.reduceLE, Nat.reduceEqDiff, Nat.reduceAdd, Nat.reduceMul, Nat.reduceLT, Nat.reduceLeDiff, Nat.reduceSub, reduceCtorEq, reduceIte, Int.reduceToNat, beq_self_eq_true, Bool.and_self, rdO, fnO]
  refine vwp_ret ?_
  simp only [go_sem, Int.reduceEq, Int.reduceNe, Int.reduceLT, Int.reduceLE, Nat.reduceEqDiff, Nat.reduceAdd, Nat.reduceMul, Nat.reduceLT, Nat.reduceLeDiff, Nat.reduceSub, reduceCtorEq, reduceIte, Int.reduceToNat, beq_self_eq_true, Bool.and_self, rdO, fnO]
  exact ⟨LeV.refl _, rfl⟩
theorem or_bytes (x y : Nat) (hx : x < 256) (hy : y < 256) : IntKind.i64.wrap (((BitVec.ofInt IntKind.i64.bits (IntKind.i64.wrap ((x : Int) * 2 ^ min (Int.toNat 8) IntKind.i64.bits)) ||| BitVec.ofInt IntKind.i64.bits (y : Int)).toNat : Nat) : Int) = ((256 * x + y : Nat) : Int) := by
  have e1 : IntKind.i64.wrap ((x : Int) * 2 ^ min (Int.toNat 8) IntKind.i64.bits) = ((2 ^ 8 * x : Nat) : Int) := by
    rw [show min (Int.toNat 8) IntKind.i64.bits = 8 by rfl, wrap_i64 (by omega) (by omega)]; omega
  have e2 : (BitVec.ofInt IntKind.i64.bits ((2 ^ 8 * x : Nat) : Int) ||| BitVec.ofInt IntKind.i64.bits (y : Int)).toNat = 2 ^ 8 * x + y := by
    rw [BitVec.toNat_or, BitVec.toNat_ofInt, BitVec.toNat_ofInt, show IntKind.i64.bits = 64 from rfl]
    rw [show (((2 ^ 8 * x : Nat) : Int) % (2 ^ 64 : Nat)).toNat = 2 ^ 8 * x by omega, show ((y : Int) % (2 ^ 64 : Nat)).toNat = y by omega]
    exact (Nat.two_pow_add_eq_or_of_lt (by omega) x).symm
  rw [e1, e2, wrap_i64 (by omega) (by omega)]
set_option maxHeartbeats 4000000 in
set_option maxRecDepth 4000 in
theorem pair_specB (st : Rd) (hb : st.2.length ≤ 9223372036854775807) :
    SpecB Tryd.prog 71 [.ptr 1000003 0] (rdO st ++ fnO) (.int .i64 ((twoR st).1 : Int)) (rdO (twoR st).2 ++ fnO) := by
  have h1 := one_specB st hb
  have l1 := oneR_lt st
  have g1 := oneR_len st
  unfold twoR
  generalize oneR st = z1 at h1 l1 g1
  obtain ⟨x, st2⟩ := z1
  have h2 := one_specB st2 (by simp only at g1; omega)
  have l2 := oneR_lt st2
  simp only at h1 l1 g1 ⊢
  generalize oneR st2 = z2 at h2 l2
  obtain ⟨y, st3⟩ := z2
  obtain ⟨q, b⟩ := st
  obtain ⟨q2, b2⟩ := st2
  obtain ⟨q3, b3⟩ := st3
  have hor := or_bytes x y l1 l2
  simp only [rdO, fnO, List.cons_append, List.nil_append] at h1 h2 ⊢
  refine specB_of tt_ok Tryd.func71 rfl (by decide) Tryd.ntmps71 (congrArg Array.toList Tryd.results71) (by simp) (by decide) rfl (by simp only [go_sem, Int.reduceEq, Int.reduceNe, Int.reduceLT, Int.reduceLE, Nat.reduceEqDiff, Nat.reduceAdd, Nat.reduceMul, Nat.reduceLT, Nat.reduceLeDiff, Nat.reduceSub, reduceCtorEq, reduceIte, Int.reduceToNat, beq_self_eq_true, Bool.and_self, rdO, fnO]) (fun F hF => ?_)
  refine vwp_seq_k fun Na hNa => vreg tt_ok hF rfl ?_; simp only [go_sem, Int.reduceEq, Int.reduceNe, Int.reduceLT, Int.reduceLE, Nat.reduceEqDiff, Nat.reduceAdd, Nat.reduceMul, Nat.reduceLT, Nat.reduceLeDiff, Nat.reduceSub, reduceCtorEq, reduceIte, Int.reduceToNat, beq_self_eq_true, Bool.and_self, rdO, fnO]
  refine hNa _ (VWp.keep [0] [1000000,1000001,1000002,1000003] ?_); simp only [go_sem, Int.reduceEq, Int.reduceNe, Int.reduceLT, Int.reduceLE, Nat.reduceEqDiff, Nat.reduceAdd, Nat.reduceMul, Nat.reduceLT, Nat.reduceLeDiff, Nat.reduceSub, reduceCtorEq, reduceIte, Int.reduceToNat, beq_self_eq_true, Bool.and_self, rdO, fnO]
  refine vmeet (fun _ : Unit => [(1, .int .i64 ((256 * x + y : Nat) : Int))]) (fun _ => rdO (q3, b3) ++ fnO) (fun _ => True) ?_ ?_
  · refine vregord tt_ok mixed hF rfl true [[0, 1, 2, 3, 4, 5, 6], [0, 3, 1, 2, 4, 5, 6]] [(3, (.int .i64 (x : Int), rdO (q2, b2) ++ fnO)), (6, (.int .i64 (y : Int), rdO (q3, b3) ++ fnO))] (by kernel_rfl) ⟨?_, ?_, trivial⟩ <;> simp only [pickL, go_sem, Int.reduceEq, Int.reduceNe, Int.reduceLT, Int.reduceLE, Nat.reduceEqDiff, Nat.reduceAdd, Nat.reduceMul, Nat.reduceLT, Nat.reduceLeDiff, Nat.reduceSub, reduceCtorEq, reduceIte, Int.reduceToNat, beq_self_eq_true, Bool.and_self, rdO, fnO]
    all_goals
      refine .inr (bxo [(1000000, 1000000), (1000001, 1000001), (1000002, 1000002), (1000003, 1000003)] rfl ?_); simp only [go_sem, Int.reduceEq, Int.reduceNe, Int.reduceLT, Int.reduceLE, Nat.reduceEqDiff, Nat.reduceAdd, Nat.reduceMul, Nat.reduceLT, Nat.reduceLeDiff, Nat.reduceSub, reduceCtorEq, reduceIte, Int.reduceToNat, beq_self_eq_true, Bool.and_self, rdO, fnO]; refine ⟨_, _, h1, ?_⟩; try simp only [go_sem, Int.reduceEq, Int.reduceNe, Int.reduceLT, Int.reduceLE, Nat.reduceEqDiff, Nat.reduceAdd, Nat.reduceMul, Nat.reduceLT, Nat.reduceLeDiff, Nat.reduceSub, reduceCtorEq, reduceIte, Int.reduceToNat, beq_self_eq_true, Bool.and_self, rdO, fnO]
      refine ⟨rfl, ?_⟩
      refine .inr (bxo [(1000000, 1000000), (1000001, 1000001), (1000002, 1000002), (1000003, 1000003)] rfl ?_); simp only [go_sem, Int.reduceEq, Int.reduceNe, Int.reduceLT, Int.reduceLE, Nat.reduceEqDiff, Nat.reduceAdd, Nat.reduceMul, Nat.reduceLT, Nat.reduceLeDiff, Nat.reduceSub, reduceCtorEq, reduceIte, Int.reduceToNat, beq_self_eq_true, Bool.and_self, rdO, fnO]; refine ⟨_, _, h2, ?_⟩; try simp only [go_sem, Int.reduceEq, Int.reduceNe, Int.reduceLT, Int.reduceLE, Nat.reduceEqDiff, Nat.reduceAdd, Nat.reduceMul, Nat.reduceLT, Nat.reduceLeDiff, Nat.reduceSub, reduceCtorEq, reduceIte, Int.reduceToNat, beq_self_eq_true, Bool.and_self, rdO, fnO]
      refine ⟨rfl, ?_⟩
      exact ⟨(), congrArg (V.int .i64) hor⟩
  intro _ _
  simp only [go_sem, Int.reduceEq, Int.reduceNe, Int.reduceLT, Int.reduceLE, Nat.reduceEqDiff, Nat.reduceAdd, Nat.reduceMul, Nat.reduceLT, Nat.reduceLeDiff, Nat.reduceSub, reduceCtorEq, reduceIte, Int.reduceToNat, beq_self_eq_true, Bool.and_self, rdO, fnO]
  refine vwp_ret ?_
  simp only [go_sem, Int.reduceEq, Int.reduceNe, Int.reduceLT, Int.reduceLE, Nat.reduceEqDiff, Nat.reduceAdd, Nat.reduceMul, Nat.reduceLT, Nat.reduceLeDiff, Nat.reduceSub, reduceCtorEq, reduceIte, Int.reduceToNat, beq_self_eq_true, Bool.and_self, rdO, fnO]
  exact LeV.refl _
end Go.Proofs.YtldkmclfhjcicaaDoor
