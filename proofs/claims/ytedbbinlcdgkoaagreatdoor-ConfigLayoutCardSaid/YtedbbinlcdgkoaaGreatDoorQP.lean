import Derived.Outline
import Derived.Test.YtedbbinlcdgkoaaGreatDoorQL
/- Layer 19: the address that a word is (strconv.ParseInt in base 16). -/
-- SIMP: ofVal_nilI
namespace Go.Proofs.YtedbbinlcdgkoaaGreatDoor
open Go.RowKit
-- FUSE
-- LESS2
set_option linter.unusedVariables false
set_option linter.unusedSimpArgs false
theorem ofVal_nilI : ofVal .nilIface = .raw .nilIface := rfl
def hexC (c : UInt8) : Bool := (decide (48 ≤ c.toNat) && decide (c.toNat ≤ 57)) || (decide (65 ≤ c.toNat) && decide (c.toNat ≤ 70))
def hexV (c : UInt8) : Nat := if c.toNat ≤ 57 then c.toNat - 48 else c.toNat - 55
theorem hexV_lt {c : UInt8} (h : hexC c = true) : hexV c < 16 := by
  unfold hexC at h
  unfold hexV
  simp only [Bool.or_eq_true, Bool.and_eq_true, decide_eq_true_eq] at h
  split <;> omega
def hexT (w : Bs) : Nat := w.foldl (fun z c => z * 16 + hexV c) 0
theorem hex_snoc (w : Bs) (k : Nat) (h : k < w.length) : hexT (w.take (k + 1)) = hexT (w.take k) * 16 + hexV w[k] := by
  unfold hexT; rw [List.take_succ_eq_append_getElem h, List.foldl_append]; rfl
theorem hex_bound (w : Bs) (hw : w.all hexC = true) : ∀ k, k ≤ w.length → hexT (w.take k) < 16 ^ k
  | 0, _ => by simp [hexT]
  | k + 1, h => by
    have ih := hex_bound w hw k (by omega)
    have h1 := hexV_lt (List.all_eq_true.1 hw _ (List.getElem_mem (show k < w.length by omega)))
    rw [hex_snoc w k (by omega), Nat.pow_succ]
    omega
set_option maxHeartbeats 4000000 in
set_option maxRecDepth 4000 in
theorem lower_spec (c : Nat) (h : 65 ≤ c ∧ c ≤ 70) : Spec Tryz.prog 159 [.int .u8 (c : Int)] (.int .u8 ((c + 32 : Nat) : Int)) := by
  obtain ⟨h1, h2⟩ := h
  have h3 : c = 65 ∨ c = 66 ∨ c = 67 ∨ c = 68 ∨ c = 69 ∨ c = 70 := by omega
  rcases h3 with rfl | rfl | rfl | rfl | rfl | rfl
  all_goals
    refine spec_of tt_ok Tryz.func159 rfl (by decide) Tryz.ntmps159 (congrArg Array.toList Tryz.results159) (by simp) (by decide) rfl rfl (fun F hF => ?_)
    refine vwp_seq_k fun Na hNa => vreg tt_ok hF rfl ?_; simp only [go_sem, Int.reduceEq, Int.reduceLT, Int.reduceLE, Nat.reduceEqDiff, Nat.reduceAdd, Nat.reduceMul, Nat.reduceLT, Nat.reduceLeDiff, reduceCtorEq, Int.reduceToNat, ofVal_nilI]
    refine hNa _ (VWp.keepR [0] [] tt_ok hF rfl fun Nb hNb => ?_); simp only [go_sem, Int.reduceEq, Int.reduceLT, Int.reduceLE, Nat.reduceEqDiff, Nat.reduceAdd, Nat.reduceMul, Nat.reduceLT, Nat.reduceLeDiff, reduceCtorEq, Int.reduceToNat, ofVal_nilI]
    refine hNb _ (VWp.keep [2] [] ?_); simp only [go_sem, Int.reduceEq, Int.reduceLT, Int.reduceLE, Nat.reduceEqDiff, Nat.reduceAdd, Nat.reduceMul, Nat.reduceLT, Nat.reduceLeDiff, reduceCtorEq, Int.reduceToNat, ofVal_nilI]
    refine vwp_ret ?_
    simp only [go_sem, Int.reduceEq, Int.reduceLT, Int.reduceLE, Nat.reduceEqDiff, Nat.reduceAdd, Nat.reduceMul, Nat.reduceLT, Nat.reduceLeDiff, reduceCtorEq, Int.reduceToNat, ofVal_nilI]
    refine LeV.of_eq ?_
    first | rfl | (congr 1; decide) | decide
theorem bytesR_at {w : Bs} {k : Nat} (h : k < w.length) : (bytesR w).getD k [] = [.int .u8 (w[k].toNat : Int)] := by
  simp [bytesR, List.getD_eq_getElem?_getD, List.getElem?_eq_getElem h]
set_option maxHeartbeats 8000000 in
set_option maxRecDepth 4000 in
theorem ParseU_spec (w : Bs) (h3 : w.length = 3) (hw : w.all hexC = true) : Spec Tryz.prog 152 [.str w, .int .i64 16, .int .i64 32] (.tup [.int .u64 (hexT w : Int), .raw .nilIface]) := by
  have hne : decide (w = []) = false := decide_eq_false (fun e => by rw [e] at h3; cases h3)
  refine spec_of tt_ok Tryz.func152 rfl (by decide) Tryz.ntmps152 (congrArg Array.toList Tryz.results152) (by simp) (by decide) rfl rfl (fun F hF => ?_)
  refine vwp_seq_k fun Na hNa => vreg tt_ok hF rfl ?_; simp only [go_sem, Int.reduceEq, Int.reduceLT, Int.reduceLE, Nat.reduceEqDiff, Nat.reduceAdd, Nat.reduceMul, Nat.reduceLT, Nat.reduceLeDiff, reduceCtorEq, Int.reduceToNat, ofVal_nilI]
  refine hNa _ (VWp.keep [0,1,2] [] ?_); simp only [go_sem, Int.reduceEq, Int.reduceLT, Int.reduceLE, Nat.reduceEqDiff, Nat.reduceAdd, Nat.reduceMul, Nat.reduceLT, Nat.reduceLeDiff, reduceCtorEq, Int.reduceToNat, ofVal_nilI]
  refine vwp_seq_k fun Nb hNb => ?_
  refine vwp_seq_k fun Nc hNc => vreg tt_ok hF rfl ?_; simp only [hne, go_sem, Int.reduceEq, Int.reduceLT, Int.reduceLE, Nat.reduceEqDiff, Nat.reduceAdd, Nat.reduceMul, Nat.reduceLT, Nat.reduceLeDiff, reduceCtorEq, Int.reduceToNat, ofVal_nilI]
  refine hNc _ (VWp.keep [0,1,2,19] [] ?_); simp only [go_sem, Int.reduceEq, Int.reduceLT, Int.reduceLE, Nat.reduceEqDiff, Nat.reduceAdd, Nat.reduceMul, Nat.reduceLT, Nat.reduceLeDiff, reduceCtorEq, Int.reduceToNat, ofVal_nilI]
  refine vif rfl ⟨(fun ht => by first | exact absurd ht (by decide) | (rw [hne] at ht; exact absurd ht (by decide))), fun hf => ?_⟩
  refine vwp_skip (hNb _ ?_)
  refine vwp_seq_k fun Ne hNe => vreg tt_ok hF rfl ?_; simp only [go_sem, Int.reduceEq, Int.reduceLT, Int.reduceLE, Nat.reduceEqDiff, Nat.reduceAdd, Nat.reduceMul, Nat.reduceLT, Nat.reduceLeDiff, reduceCtorEq, Int.reduceToNat, ofVal_nilI]
  refine hNe _ (VWp.keepR [0,1,2,8] [] tt_ok hF rfl fun Nf hNf => ?_); simp only [go_sem, Int.reduceEq, Int.reduceLT, Int.reduceLE, Nat.reduceEqDiff, Nat.reduceAdd, Nat.reduceMul, Nat.reduceLT, Nat.reduceLeDiff, reduceCtorEq, Int.reduceToNat, ofVal_nilI]
  refine hNf _ (VWp.keep [0,1,2,8,9] [] ?_); simp only [go_sem, Int.reduceEq, Int.reduceLT, Int.reduceLE, Nat.reduceEqDiff, Nat.reduceAdd, Nat.reduceMul, Nat.reduceLT, Nat.reduceLeDiff, reduceCtorEq, Int.reduceToNat, ofVal_nilI]
  refine vwp_seq_k fun Ng hNg => ?_
  refine vwp_block ?_
  refine vwp_seq_k fun Nh hNh => vreg tt_ok hF rfl ?_; simp only [go_sem, Int.reduceEq, Int.reduceLT, Int.reduceLE, Nat.reduceEqDiff, Nat.reduceAdd, Nat.reduceMul, Nat.reduceLT, Nat.reduceLeDiff, reduceCtorEq, Int.reduceToNat, ofVal_nilI]
  refine hNh _ (VWp.keep [0,1,2,8,9,25] [] ?_); simp only [go_sem, Int.reduceEq, Int.reduceLT, Int.reduceLE, Nat.reduceEqDiff, Nat.reduceAdd, Nat.reduceMul, Nat.reduceLT, Nat.reduceLeDiff, reduceCtorEq, Int.reduceToNat, ofVal_nilI]
  refine vif rfl ⟨fun ht => ?_, (fun hf => by exact absurd hf (by decide))⟩
  refine vwp_skip (hNg _ ?_)
  refine vwp_seq_k fun Ni hNi => ?_
  refine vwp_seq_k fun Nj hNj => vreg tt_ok hF rfl ?_; simp only [go_sem, Int.reduceEq, Int.reduceLT, Int.reduceLE, Nat.reduceEqDiff, Nat.reduceAdd, Nat.reduceMul, Nat.reduceLT, Nat.reduceLeDiff, reduceCtorEq, Int.reduceToNat, ofVal_nilI]
  refine hNj _ (VWp.keep [0,1,2,8,9,77] [] ?_); simp only [go_sem, Int.reduceEq, Int.reduceLT, Int.reduceLE, Nat.reduceEqDiff, Nat.reduceAdd, Nat.reduceMul, Nat.reduceLT, Nat.reduceLeDiff, reduceCtorEq, Int.reduceToNat, ofVal_nilI]
  refine vif rfl ⟨(fun ht => by exact absurd ht (by decide)), fun hf => ?_⟩
  refine vwp_seq_k fun Nau hNau => vreg tt_ok hF rfl ?_; simp only [go_sem, Int.reduceEq, Int.reduceLT, Int.reduceLE, Nat.reduceEqDiff, Nat.reduceAdd, Nat.reduceMul, Nat.reduceLT, Nat.reduceLeDiff, reduceCtorEq, Int.reduceToNat, ofVal_nilI]
  refine hNau _ (VWp.keep [0,1,2,8,9,83] [] ?_); simp only [go_sem, Int.reduceEq, Int.reduceLT, Int.reduceLE, Nat.reduceEqDiff, Nat.reduceAdd, Nat.reduceMul, Nat.reduceLT, Nat.reduceLeDiff, reduceCtorEq, Int.reduceToNat, ofVal_nilI]
  refine vif rfl ⟨(fun ht => by exact absurd ht (by decide)), fun hf => ?_⟩
  refine vwp_skip (hNi _ ?_)
  refine vwp_seq_k fun Nk hNk => vreg tt_ok hF rfl ?_; simp only [go_sem, Int.reduceEq, Int.reduceLT, Int.reduceLE, Nat.reduceEqDiff, Nat.reduceAdd, Nat.reduceMul, Nat.reduceLT, Nat.reduceLeDiff, reduceCtorEq, Int.reduceToNat, ofVal_nilI]
  refine hNk _ (VWp.keep [0,1,2,8,9] [] ?_); simp only [go_sem, Int.reduceEq, Int.reduceLT, Int.reduceLE, Nat.reduceEqDiff, Nat.reduceAdd, Nat.reduceMul, Nat.reduceLT, Nat.reduceLeDiff, reduceCtorEq, Int.reduceToNat, ofVal_nilI]
  refine vwp_seq_k fun Nl hNl => ?_
  refine vwp_seq_k fun Nm hNm => vreg tt_ok hF rfl ?_; simp only [go_sem, Int.reduceEq, Int.reduceLT, Int.reduceLE, Nat.reduceEqDiff, Nat.reduceAdd, Nat.reduceMul, Nat.reduceLT, Nat.reduceLeDiff, reduceCtorEq, Int.reduceToNat, ofVal_nilI]
  refine hNm _ (VWp.keep [0,1,2,8,9,85] [] ?_); simp only [go_sem, Int.reduceEq, Int.reduceLT, Int.reduceLE, Nat.reduceEqDiff, Nat.reduceAdd, Nat.reduceMul, Nat.reduceLT, Nat.reduceLeDiff, reduceCtorEq, Int.reduceToNat, ofVal_nilI]
  refine vwp_block ?_
  refine vwp_seq_k fun Nn hNn => vreg tt_ok hF rfl ?_; simp only [go_sem, Int.reduceEq, Int.reduceLT, Int.reduceLE, Nat.reduceEqDiff, Nat.reduceAdd, Nat.reduceMul, Nat.reduceLT, Nat.reduceLeDiff, reduceCtorEq, Int.reduceToNat, ofVal_nilI]
  refine hNn _ (VWp.keep [0,1,2,8,9,85,90] [] ?_); simp only [go_sem, Int.reduceEq, Int.reduceLT, Int.reduceLE, Nat.reduceEqDiff, Nat.reduceAdd, Nat.reduceMul, Nat.reduceLT, Nat.reduceLeDiff, reduceCtorEq, Int.reduceToNat, ofVal_nilI]
  refine vif rfl ⟨(fun ht => by exact absurd ht (by decide)), fun hf => ?_⟩
  refine vwp_seq_k fun Naty hNaty => vreg tt_ok hF rfl ?_; simp only [go_sem, Int.reduceEq, Int.reduceLT, Int.reduceLE, Nat.reduceEqDiff, Nat.reduceAdd, Nat.reduceMul, Nat.reduceLT, Nat.reduceLeDiff, reduceCtorEq, Int.reduceToNat, ofVal_nilI]
  refine hNaty _ (VWp.keep [0,1,2,8,9,92] [] ?_); simp only [go_sem, Int.reduceEq, Int.reduceLT, Int.reduceLE, Nat.reduceEqDiff, Nat.reduceAdd, Nat.reduceMul, Nat.reduceLT, Nat.reduceLeDiff, reduceCtorEq, Int.reduceToNat, ofVal_nilI]
  refine vif rfl ⟨fun ht => ?_, (fun hf => by exact absurd hf (by decide))⟩
  refine vreg tt_ok hF rfl ?_; simp only [go_sem, Int.reduceEq, Int.reduceLT, Int.reduceLE, Nat.reduceEqDiff, Nat.reduceAdd, Nat.reduceMul, Nat.reduceLT, Nat.reduceLeDiff, reduceCtorEq, Int.reduceToNat, ofVal_nilI]
  refine hNl _ (VWp.keep [0,1,2,8,9,10] [] ?_); simp only [go_sem, Int.reduceEq, Int.reduceLT, Int.reduceLE, Nat.reduceEqDiff, Nat.reduceAdd, Nat.reduceMul, Nat.reduceLT, Nat.reduceLeDiff, reduceCtorEq, Int.reduceToNat, ofVal_nilI]
  have hmax : IntKind.u64.wrap (IntKind.u64.wrap (1 * 2 ^ min (IntKind.u64.wrap 32).toNat 64) - 1) = 4294967295 := by decide
  refine vwp_seq_k fun No hNo => vreg tt_ok hF rfl ?_; simp only [go_sem, Int.reduceEq, Int.reduceLT, Int.reduceLE, Nat.reduceEqDiff, Nat.reduceAdd, Nat.reduceMul, Nat.reduceLT, Nat.reduceLeDiff, reduceCtorEq, Int.reduceToNat, ofVal_nilI]
  simp only [hmax]
  refine hNo _ (VWp.keepR [0,1,8,9,10,11] [] tt_ok hF rfl fun Np hNp => ?_); simp only [go_sem, Int.reduceEq, Int.reduceLT, Int.reduceLE, Nat.reduceEqDiff, Nat.reduceAdd, Nat.reduceMul, Nat.reduceLT, Nat.reduceLeDiff, reduceCtorEq, Int.reduceToNat, ofVal_nilI]
  refine hNp _ (VWp.keepR [0,1,8,9,10,11,12] [] tt_ok hF rfl fun Nq hNq => ?_); simp only [go_sem, Int.reduceEq, Int.reduceLT, Int.reduceLE, Nat.reduceEqDiff, Nat.reduceAdd, Nat.reduceMul, Nat.reduceLT, Nat.reduceLeDiff, reduceCtorEq, Int.reduceToNat, ofVal_nilI]
  refine hNq _ (VWp.keep [0,1,8,9,10,11,12,13] [] ?_); simp only [go_sem, Int.reduceEq, Int.reduceLT, Int.reduceLE, Nat.reduceEqDiff, Nat.reduceAdd, Nat.reduceMul, Nat.reduceLT, Nat.reduceLeDiff, reduceCtorEq, Int.reduceToNat, ofVal_nilI]
  refine vwp_seq_k fun Nr hNr => ?_
  refine vwp_seq_k fun Ns hNs => vreg tt_ok hF rfl ?_; simp only [bytesR_len, go_sem, Int.reduceEq, Int.reduceLT, Int.reduceLE, Nat.reduceEqDiff, Nat.reduceAdd, Nat.reduceMul, Nat.reduceLT, Nat.reduceLeDiff, reduceCtorEq, Int.reduceToNat, ofVal_nilI]
  refine ⟨by omega, ?_⟩
  refine hNs _ (VWp.keep [1,8,9,10,11,12,13,99,100,101] [] ?_); simp only [go_sem, Int.reduceEq, Int.reduceLT, Int.reduceLE, Nat.reduceEqDiff, Nat.reduceAdd, Nat.reduceMul, Nat.reduceLT, Nat.reduceLeDiff, reduceCtorEq, Int.reduceToNat, ofVal_nilI]
  refine vwp_block ?_
  refine vloop (fun k : Nat => [(1, .int .i64 16), (8, .bool false), (9, .str w), (10, .int .u64 1152921504606846976), (11, .int .u64 4294967295), (12, .bool false), (13, .int .u64 (hexT (w.take k) : Int)), (99, .sl 1 (bytesR w)), (100, .int .i64 (w.length : Int)), (101, .int .i64 (k : Int))]) (fun k => []) (fun k => k ≤ w.length) (fun k => w.length - k) 0 (Nat.zero_le _)
    (by simp only [go_sem, Int.reduceEq, Int.reduceLT, Int.reduceLE, Nat.reduceEqDiff, Nat.reduceAdd, Nat.reduceMul, Nat.reduceLT, Nat.reduceLeDiff, reduceCtorEq, Int.reduceToNat, ofVal_nilI]; try rfl) ?_
  intro k hk
  refine vwp_seq_k fun Nt hNt => vreg tt_ok hF rfl ?_; simp only [go_sem, Int.reduceEq, Int.reduceLT, Int.reduceLE, Nat.reduceEqDiff, Nat.reduceAdd, Nat.reduceMul, Nat.reduceLT, Nat.reduceLeDiff, reduceCtorEq, Int.reduceToNat, ofVal_nilI]
  refine hNt _ (VWp.keep [1,8,9,10,11,12,13,99,100,101,102] [] ?_); simp only [go_sem, Int.reduceEq, Int.reduceLT, Int.reduceLE, Nat.reduceEqDiff, Nat.reduceAdd, Nat.reduceMul, Nat.reduceLT, Nat.reduceLeDiff, reduceCtorEq, Int.reduceToNat, ofVal_nilI]
  refine vwp_seq_k fun Nu hNu => ?_
  refine vif rfl ⟨fun ht => ?_, fun hf => ?_⟩
  · have hlt : k < w.length := by have := of_decide_eq_true ht; omega
    have hget := bytesR_at hlt
    have hcx := List.all_eq_true.1 hw _ (List.getElem_mem hlt)
    have hvl := hexV_lt hcx
    have hbd := hex_bound w hw k hk
    have hp : 16 ^ k ≤ 16 ^ 2 := Nat.pow_le_pow_right (by omega) (by omega)
    have hsn := hex_snoc w k hlt
    have h95 : decide ((w[k].toNat : Int) = 95) = false := decide_eq_false (fun e => by
      unfold hexC at hcx
      simp only [Bool.or_eq_true, Bool.and_eq_true, decide_eq_true_eq] at hcx
      omega)
    refine vwp_skip (hNu _ ?_)
    refine vwp_seq_k fun Nv hNv => ?_
    refine vwp_block ?_
    refine vwp_seq_k fun Nw hNw => vreg tt_ok hF rfl ?_; simp only [hget, bytesR_len, Int.toNat_natCast, go_sem, Int.reduceEq, Int.reduceLT, Int.reduceLE, Nat.reduceEqDiff, Nat.reduceAdd, Nat.reduceMul, Nat.reduceLT, Nat.reduceLeDiff, reduceCtorEq, Int.reduceToNat, ofVal_nilI]
    refine ⟨⟨by omega, by omega⟩, ?_⟩
    refine hNw _ (VWp.keepR [1,8,9,10,11,12,13,15,99,100,101] [] tt_ok hF rfl fun Nx hNx => ?_); simp only [go_sem, Int.reduceEq, Int.reduceLT, Int.reduceLE, Nat.reduceEqDiff, Nat.reduceAdd, Nat.reduceMul, Nat.reduceLT, Nat.reduceLeDiff, reduceCtorEq, Int.reduceToNat, ofVal_nilI]
    refine hNx _ (VWp.keep [1,8,9,10,11,12,13,15,99,100,101] [] ?_); simp only [go_sem, Int.reduceEq, Int.reduceLT, Int.reduceLE, Nat.reduceEqDiff, Nat.reduceAdd, Nat.reduceMul, Nat.reduceLT, Nat.reduceLeDiff, reduceCtorEq, Int.reduceToNat, ofVal_nilI]
    refine vmeet (fun _ : Unit => [(1, .int .i64 16), (8, .bool false), (9, .str w), (10, .int .u64 1152921504606846976), (11, .int .u64 4294967295), (12, .bool false), (13, .int .u64 (hexT (w.take k) : Int)), (16, .int .u8 (hexV w[k] : Int)), (99, .sl 1 (bytesR w)), (100, .int .i64 (w.length : Int)), (101, .int .i64 (k : Int))]) (fun _ => []) (fun _ => True) ?_ ?_
    · refine vwp_block ?_
      refine vwp_seq_k fun Nz hNz => vreg tt_ok hF rfl ?_; simp only [h95, go_sem, Int.reduceEq, Int.reduceLT, Int.reduceLE, Nat.reduceEqDiff, Nat.reduceAdd, Nat.reduceMul, Nat.reduceLT, Nat.reduceLeDiff, reduceCtorEq, Int.reduceToNat, ofVal_nilI]
      refine hNz _ (VWp.keep [1,8,9,10,11,12,13,15,99,100,101,106] [] ?_); simp only [go_sem, Int.reduceEq, Int.reduceLT, Int.reduceLE, Nat.reduceEqDiff, Nat.reduceAdd, Nat.reduceMul, Nat.reduceLT, Nat.reduceLeDiff, reduceCtorEq, Int.reduceToNat, ofVal_nilI]
      refine vif rfl ⟨(fun ht => by first | exact absurd ht (by decide) | (rw [h95] at ht; exact absurd ht (by decide))), fun hf => ?_⟩
      by_cases hdg : w[k].toNat ≤ 57
      · have hge : 48 ≤ w[k].toNat := by
          unfold hexC at hcx
          simp only [Bool.or_eq_true, Bool.and_eq_true, decide_eq_true_eq] at hcx
          omega
        have e1 : decide ((48 : Int) ≤ (w[k].toNat : Int)) = true := decide_eq_true (by omega)
        have e2 : decide ((w[k].toNat : Int) ≤ 57) = true := decide_eq_true (by omega)
        have hv : (hexV w[k] : Int) = (w[k].toNat : Int) - 48 := by unfold hexV; rw [if_pos hdg]; omega
        refine vwp_seq_k fun Nab hNab => vreg tt_ok hF rfl ?_; simp only [e1, e2, go_sem, Int.reduceEq, Int.reduceLT, Int.reduceLE, Nat.reduceEqDiff, Nat.reduceAdd, Nat.reduceMul, Nat.reduceLT, Nat.reduceLeDiff, reduceCtorEq, Int.reduceToNat, ofVal_nilI]
        refine hNab _ (VWp.keep [1,8,9,10,11,12,13,15,99,100,101,112] [] ?_); simp only [go_sem, Int.reduceEq, Int.reduceLT, Int.reduceLE, Nat.reduceEqDiff, Nat.reduceAdd, Nat.reduceMul, Nat.reduceLT, Nat.reduceLeDiff, reduceCtorEq, Int.reduceToNat, ofVal_nilI]
        refine vif rfl ⟨fun ht => ?_, (fun hf => by first | exact absurd hf (by decide) | (rw [e1] at hf; exact absurd hf (by decide)) | (rw [e2] at hf; exact absurd hf (by decide)))⟩
        refine vreg tt_ok hF rfl ?_; simp only [go_sem, Int.reduceEq, Int.reduceLT, Int.reduceLE, Nat.reduceEqDiff, Nat.reduceAdd, Nat.reduceMul, Nat.reduceLT, Nat.reduceLeDiff, reduceCtorEq, Int.reduceToNat, ofVal_nilI]
        rw [wrap_u8, Int.emod_eq_of_lt (by omega) (by omega), ← hv]
        exact ⟨(), rfl⟩
      · have hge : 65 ≤ w[k].toNat ∧ w[k].toNat ≤ 70 := by
          unfold hexC at hcx
          simp only [Bool.or_eq_true, Bool.and_eq_true, decide_eq_true_eq] at hcx
          omega
        have e1 : decide ((48 : Int) ≤ (w[k].toNat : Int)) = true := decide_eq_true (by omega)
        have e2 : decide ((w[k].toNat : Int) ≤ 57) = false := decide_eq_false (by omega)
        have e3 : decide ((97 : Int) ≤ ((w[k].toNat + 32 : Nat) : Int)) = true := decide_eq_true (by omega)
        have e4 : decide (((w[k].toNat + 32 : Nat) : Int) ≤ 122) = true := decide_eq_true (by omega)
        have hv : (hexV w[k] : Int) = ((w[k].toNat + 32 : Nat) : Int) - 97 + 10 := by unfold hexV; rw [if_neg hdg]; omega
        have hlw := lower_spec w[k].toNat hge
        refine vwp_seq_k fun Nab hNab => vreg tt_ok hF rfl ?_; simp only [e1, e2, go_sem, Int.reduceEq, Int.reduceLT, Int.reduceLE, Nat.reduceEqDiff, Nat.reduceAdd, Nat.reduceMul, Nat.reduceLT, Nat.reduceLeDiff, reduceCtorEq, Int.reduceToNat, ofVal_nilI]
        refine hNab _ (VWp.keep [1,8,9,10,11,12,13,15,99,100,101,112] [] ?_); simp only [go_sem, Int.reduceEq, Int.reduceLT, Int.reduceLE, Nat.reduceEqDiff, Nat.reduceAdd, Nat.reduceMul, Nat.reduceLT, Nat.reduceLeDiff, reduceCtorEq, Int.reduceToNat, ofVal_nilI]
        refine vif rfl ⟨(fun ht => by first | exact absurd ht (by decide) | (rw [e2] at ht; exact absurd ht (by decide))), fun hf => ?_⟩
        refine vwp_seq_k fun Nan hNan => vreg tt_ok hF rfl ?_; simp only [go_sem, Int.reduceEq, Int.reduceLT, Int.reduceLE, Nat.reduceEqDiff, Nat.reduceAdd, Nat.reduceMul, Nat.reduceLT, Nat.reduceLeDiff, reduceCtorEq, Int.reduceToNat, ofVal_nilI]
        refine .inl ⟨_, hlw, ?_⟩; try simp only [go_sem, Int.reduceEq, Int.reduceLT, Int.reduceLE, Nat.reduceEqDiff, Nat.reduceAdd, Nat.reduceMul, Nat.reduceLT, Nat.reduceLeDiff, reduceCtorEq, Int.reduceToNat, ofVal_nilI]
        simp only [e3, go_sem, Int.reduceEq, Int.reduceLT, Int.reduceLE, Nat.reduceEqDiff, Nat.reduceAdd, Nat.reduceMul, Nat.reduceLT, Nat.reduceLeDiff, reduceCtorEq, Int.reduceToNat, ofVal_nilI]
        refine .inl ⟨_, hlw, ?_⟩; try simp only [go_sem, Int.reduceEq, Int.reduceLT, Int.reduceLE, Nat.reduceEqDiff, Nat.reduceAdd, Nat.reduceMul, Nat.reduceLT, Nat.reduceLeDiff, reduceCtorEq, Int.reduceToNat, ofVal_nilI]
        simp only [e4, go_sem, Int.reduceEq, Int.reduceLT, Int.reduceLE, Nat.reduceEqDiff, Nat.reduceAdd, Nat.reduceMul, Nat.reduceLT, Nat.reduceLeDiff, reduceCtorEq, Int.reduceToNat, ofVal_nilI]
        refine hNan _ (VWp.keep [1,8,9,10,11,12,13,15,99,100,101,121] [] ?_); simp only [go_sem, Int.reduceEq, Int.reduceLT, Int.reduceLE, Nat.reduceEqDiff, Nat.reduceAdd, Nat.reduceMul, Nat.reduceLT, Nat.reduceLeDiff, reduceCtorEq, Int.reduceToNat, ofVal_nilI]
        refine vif rfl ⟨fun ht => ?_, (fun hf => by first | exact absurd hf (by decide) | (rw [e4] at hf; exact absurd hf (by decide)))⟩
        refine vreg tt_ok hF rfl ?_; simp only [go_sem, Int.reduceEq, Int.reduceLT, Int.reduceLE, Nat.reduceEqDiff, Nat.reduceAdd, Nat.reduceMul, Nat.reduceLT, Nat.reduceLeDiff, reduceCtorEq, Int.reduceToNat, ofVal_nilI]
        refine .inl ⟨_, hlw, ?_⟩; try simp only [go_sem, Int.reduceEq, Int.reduceLT, Int.reduceLE, Nat.reduceEqDiff, Nat.reduceAdd, Nat.reduceMul, Nat.reduceLT, Nat.reduceLeDiff, reduceCtorEq, Int.reduceToNat, ofVal_nilI]
        have q1 : IntKind.u8.wrap (((w[k].toNat + 32 : Nat) : Int) - 97) = ((w[k].toNat + 32 : Nat) : Int) - 97 := by rw [wrap_u8, Int.emod_eq_of_lt (by omega) (by omega)]
        have q2 : IntKind.u8.wrap (((w[k].toNat + 32 : Nat) : Int) - 97 + 10) = (hexV w[k] : Int) := by rw [wrap_u8, Int.emod_eq_of_lt (by omega) (by omega), hv]
        rw [q1, q2]
        exact ⟨(), rfl⟩
    · intro _ _
      obtain ⟨dv, hdv⟩ : ∃ dv, hexV w[k] = dv := ⟨_, rfl⟩
      obtain ⟨ac, hac⟩ : ∃ ac, hexT (w.take k) = ac := ⟨_, rfl⟩
      rw [hdv] at hvl hsn
      rw [hac] at hbd hsn
      rw [hdv, hac]
      have hacb : ac < 256 := by omega
      have e5 : decide ((16 : Int) ≤ (dv : Int)) = false := decide_eq_false (by omega)
      have e6 : decide ((1152921504606846976 : Int) ≤ (ac : Int)) = false := decide_eq_false (by omega)
      have w16 : IntKind.u8.wrap 16 = 16 := by decide
      have w17 : IntKind.u64.wrap 16 = 16 := by decide
      have w18 : IntKind.u64.wrap ((ac : Int) * 16) = ((ac * 16 : Nat) : Int) := by rw [wrap_u64]; omega
      have w19 : IntKind.u64.wrap (dv : Int) = (dv : Int) := by rw [wrap_u64]; omega
      have w20 : IntKind.u64.wrap (((ac * 16 : Nat) : Int) + (dv : Int)) = ((ac * 16 + dv : Nat) : Int) := by rw [wrap_u64]; omega
      have e7 : decide (((ac * 16 + dv : Nat) : Int) < ((ac * 16 : Nat) : Int)) = false := decide_eq_false (by omega)
      have e8 : decide ((4294967295 : Int) < ((ac * 16 + dv : Nat) : Int)) = false := decide_eq_false (by omega)
      refine vwp_seq_k fun Nac hNac => ?_
      refine vwp_seq_k fun Nad hNad => vreg tt_ok hF rfl ?_; simp only [w16, e5, go_sem, Int.reduceEq, Int.reduceLT, Int.reduceLE, Nat.reduceEqDiff, Nat.reduceAdd, Nat.reduceMul, Nat.reduceLT, Nat.reduceLeDiff, reduceCtorEq, Int.reduceToNat, ofVal_nilI]
      refine hNad _ (VWp.keep [1,8,9,10,11,12,13,16,99,100,101,137] [] ?_); simp only [go_sem, Int.reduceEq, Int.reduceLT, Int.reduceLE, Nat.reduceEqDiff, Nat.reduceAdd, Nat.reduceMul, Nat.reduceLT, Nat.reduceLeDiff, reduceCtorEq, Int.reduceToNat, ofVal_nilI]
      refine vif rfl ⟨(fun ht => by first | exact absurd ht (by decide) | (rw [e5] at ht; exact absurd ht (by decide))), fun hf => ?_⟩
      refine vwp_skip (hNac _ ?_)
      refine vwp_seq_k fun Naf hNaf => ?_
      refine vwp_seq_k fun Nag hNag => vreg tt_ok hF rfl ?_; simp only [e6, go_sem, Int.reduceEq, Int.reduceLT, Int.reduceLE, Nat.reduceEqDiff, Nat.reduceAdd, Nat.reduceMul, Nat.reduceLT, Nat.reduceLeDiff, reduceCtorEq, Int.reduceToNat, ofVal_nilI]
      refine hNag _ (VWp.keep [1,8,9,10,11,12,13,16,99,100,101,141] [] ?_); simp only [go_sem, Int.reduceEq, Int.reduceLT, Int.reduceLE, Nat.reduceEqDiff, Nat.reduceAdd, Nat.reduceMul, Nat.reduceLT, Nat.reduceLeDiff, reduceCtorEq, Int.reduceToNat, ofVal_nilI]
      refine vif rfl ⟨(fun ht => by first | exact absurd ht (by decide) | (rw [e6] at ht; exact absurd ht (by decide))), fun hf => ?_⟩
      refine vwp_skip (hNaf _ ?_)
      refine vwp_seq_k fun Nai hNai => vreg tt_ok hF rfl ?_; simp only [w17, w18, go_sem, Int.reduceEq, Int.reduceLT, Int.reduceLE, Nat.reduceEqDiff, Nat.reduceAdd, Nat.reduceMul, Nat.reduceLT, Nat.reduceLeDiff, reduceCtorEq, Int.reduceToNat, ofVal_nilI]
      refine hNai _ (VWp.keepR [1,8,9,10,11,12,13,16,99,100,101] [] tt_ok hF rfl fun Naj hNaj => ?_); simp only [w19, w20, go_sem, Int.reduceEq, Int.reduceLT, Int.reduceLE, Nat.reduceEqDiff, Nat.reduceAdd, Nat.reduceMul, Nat.reduceLT, Nat.reduceLeDiff, reduceCtorEq, Int.reduceToNat, ofVal_nilI]
      refine hNaj _ (VWp.keep [1,8,9,10,11,12,13,17,99,100,101] [] ?_); simp only [go_sem, Int.reduceEq, Int.reduceLT, Int.reduceLE, Nat.reduceEqDiff, Nat.reduceAdd, Nat.reduceMul, Nat.reduceLT, Nat.reduceLeDiff, reduceCtorEq, Int.reduceToNat, ofVal_nilI]
      refine vwp_seq_k fun Nak hNak => ?_
      refine vwp_seq_k fun Nal hNal => vreg tt_ok hF rfl ?_; simp only [e7, e8, go_sem, Int.reduceEq, Int.reduceLT, Int.reduceLE, Nat.reduceEqDiff, Nat.reduceAdd, Nat.reduceMul, Nat.reduceLT, Nat.reduceLeDiff, reduceCtorEq, Int.reduceToNat, ofVal_nilI]
      refine hNal _ (VWp.keep [1,8,9,10,11,12,17,99,100,101,159] [] ?_); simp only [go_sem, Int.reduceEq, Int.reduceLT, Int.reduceLE, Nat.reduceEqDiff, Nat.reduceAdd, Nat.reduceMul, Nat.reduceLT, Nat.reduceLeDiff, reduceCtorEq, Int.reduceToNat, ofVal_nilI]
      refine vif rfl ⟨(fun ht => by first | exact absurd ht (by decide) | (rw [e8] at ht; exact absurd ht (by decide))), fun hf => ?_⟩
      refine vwp_skip (hNak _ ?_)
      refine vreg tt_ok hF rfl ?_; simp only [go_sem, Int.reduceEq, Int.reduceLT, Int.reduceLE, Nat.reduceEqDiff, Nat.reduceAdd, Nat.reduceMul, Nat.reduceLT, Nat.reduceLeDiff, reduceCtorEq, Int.reduceToNat, ofVal_nilI]
      refine hNv _ (VWp.keep [1,8,9,10,11,12,13,99,100,101] [] ?_); simp only [go_sem, Int.reduceEq, Int.reduceLT, Int.reduceLE, Nat.reduceEqDiff, Nat.reduceAdd, Nat.reduceMul, Nat.reduceLT, Nat.reduceLeDiff, reduceCtorEq, Int.reduceToNat, ofVal_nilI]
      refine vreg tt_ok hF rfl ?_; simp only [go_sem, Int.reduceEq, Int.reduceLT, Int.reduceLE, Nat.reduceEqDiff, Nat.reduceAdd, Nat.reduceMul, Nat.reduceLT, Nat.reduceLeDiff, reduceCtorEq, Int.reduceToNat, ofVal_nilI]
      rw [wrap_i64 (by omega) (by omega)]
      exact ⟨k + 1, by omega, by omega, by rw [hsn]; simp⟩
  · have hke : k = w.length := by have := of_decide_eq_false hf; omega
    subst hke
    refine vwp_exit ?_
    simp only [List.take_length, go_sem, Int.reduceEq, Int.reduceLT, Int.reduceLE, Nat.reduceEqDiff, Nat.reduceAdd, Nat.reduceMul, Nat.reduceLT, Nat.reduceLeDiff, reduceCtorEq, Int.reduceToNat, ofVal_nilI]
    refine hNr _ (VWp.keep [9,12,13] [] ?_); simp only [go_sem, Int.reduceEq, Int.reduceLT, Int.reduceLE, Nat.reduceEqDiff, Nat.reduceAdd, Nat.reduceMul, Nat.reduceLT, Nat.reduceLeDiff, reduceCtorEq, Int.reduceToNat, ofVal_nilI]
    refine vwp_seq_k fun Nap hNap => ?_
    refine vwp_seq_k fun Naq hNaq => vreg tt_ok hF rfl ?_; simp only [go_sem, Int.reduceEq, Int.reduceLT, Int.reduceLE, Nat.reduceEqDiff, Nat.reduceAdd, Nat.reduceMul, Nat.reduceLT, Nat.reduceLeDiff, reduceCtorEq, Int.reduceToNat, ofVal_nilI]
    refine hNaq _ (VWp.keep [13,169] [] ?_); simp only [go_sem, Int.reduceEq, Int.reduceLT, Int.reduceLE, Nat.reduceEqDiff, Nat.reduceAdd, Nat.reduceMul, Nat.reduceLT, Nat.reduceLeDiff, reduceCtorEq, Int.reduceToNat, ofVal_nilI]
    refine vif rfl ⟨(fun ht => by exact absurd ht (by decide)), fun hf => ?_⟩
    refine vwp_skip (hNap _ ?_)
    refine vwp_seq_k fun Nas hNas => vreg tt_ok hF rfl ?_; simp only [go_sem, Int.reduceEq, Int.reduceLT, Int.reduceLE, Nat.reduceEqDiff, Nat.reduceAdd, Nat.reduceMul, Nat.reduceLT, Nat.reduceLeDiff, reduceCtorEq, Int.reduceToNat, ofVal_nilI]
    refine hNas _ (VWp.keep [6,7] [] ?_); simp only [go_sem, Int.reduceEq, Int.reduceLT, Int.reduceLE, Nat.reduceEqDiff, Nat.reduceAdd, Nat.reduceMul, Nat.reduceLT, Nat.reduceLeDiff, reduceCtorEq, Int.reduceToNat, ofVal_nilI]
    refine vwp_ret ?_
    simp only [go_sem, Int.reduceEq, Int.reduceLT, Int.reduceLE, Nat.reduceEqDiff, Nat.reduceAdd, Nat.reduceMul, Nat.reduceLT, Nat.reduceLeDiff, reduceCtorEq, Int.reduceToNat, ofVal_nilI]
    exact LeV.refl _
theorem hexT_lt (w : Bs) (h3 : w.length = 3) (hw : w.all hexC = true) : hexT w < 4096 := by
  have := hex_bound w hw 3 (by omega)
  rw [← h3, List.take_length] at this
  rw [h3] at this; exact this
set_option maxHeartbeats 8000000 in
set_option maxRecDepth 4000 in
theorem ParseI_spec (w : Bs) (h3 : w.length = 3) (hw : w.all hexC = true) : Spec Tryz.prog 139 [.str w, .int .i64 16, .int .i64 32] (.tup [.int .i64 (hexT w : Int), .raw .nilIface]) := by
  have hpu := ParseU_spec w h3 hw
  have hlt := hexT_lt w h3 hw
  have hne : decide (w = []) = false := decide_eq_false (fun e => by rw [e] at h3; cases h3)
  have hcx := List.all_eq_true.1 hw _ (List.getElem_mem (show 0 < w.length by omega))
  have h0 : w.getD 0 0 = w[0] := by simp [List.getD_eq_getElem?_getD, List.getElem?_eq_getElem (show 0 < w.length by omega)]
  have e43 : decide (((w.getD 0 0).toNat : Int) = 43) = false := decide_eq_false (fun e => by
    rw [h0] at e
    unfold hexC at hcx
    simp only [Bool.or_eq_true, Bool.and_eq_true, decide_eq_true_eq] at hcx
    omega)
  have e45 : decide (((w.getD 0 0).toNat : Int) = 45) = false := decide_eq_false (fun e => by
    rw [h0] at e
    unfold hexC at hcx
    simp only [Bool.or_eq_true, Bool.and_eq_true, decide_eq_true_eq] at hcx
    omega)
  generalize hexT w = v at hpu hlt
  have hcut : IntKind.u64.wrap (1 * 2 ^ min (IntKind.u64.wrap (IntKind.i64.wrap (32 - 1))).toNat 64) = 2147483648 := by decide
  have e1 : decide ((2147483648 : Int) ≤ (v : Int)) = false := decide_eq_false (by omega)
  have hw2 : IntKind.i64.wrap (v : Int) = (v : Int) := wrap_i64 (by omega) (by omega)
  refine spec_of tt_ok Tryz.func139 rfl (by decide) Tryz.ntmps139 (congrArg Array.toList Tryz.results139) (by simp) (by decide) rfl rfl (fun F hF => ?_)
  refine vwp_seq_k fun Na hNa => vreg tt_ok hF rfl ?_; simp only [go_sem, Int.reduceEq, Int.reduceLT, Int.reduceLE, Nat.reduceEqDiff, Nat.reduceAdd, Nat.reduceMul, Nat.reduceLT, Nat.reduceLeDiff, reduceCtorEq, Int.reduceToNat, ofVal_nilI]
  refine hNa _ (VWp.keep [0,1,2] [] ?_); simp only [go_sem, Int.reduceEq, Int.reduceLT, Int.reduceLE, Nat.reduceEqDiff, Nat.reduceAdd, Nat.reduceMul, Nat.reduceLT, Nat.reduceLeDiff, reduceCtorEq, Int.reduceToNat, ofVal_nilI]
  refine vwp_seq_k fun Nb hNb => ?_
  refine vwp_seq_k fun Nc hNc => vreg tt_ok hF rfl ?_; simp only [hne, go_sem, Int.reduceEq, Int.reduceLT, Int.reduceLE, Nat.reduceEqDiff, Nat.reduceAdd, Nat.reduceMul, Nat.reduceLT, Nat.reduceLeDiff, reduceCtorEq, Int.reduceToNat, ofVal_nilI]
  refine hNc _ (VWp.keep [0,1,2,13] [] ?_); simp only [go_sem, Int.reduceEq, Int.reduceLT, Int.reduceLE, Nat.reduceEqDiff, Nat.reduceAdd, Nat.reduceMul, Nat.reduceLT, Nat.reduceLeDiff, reduceCtorEq, Int.reduceToNat, ofVal_nilI]
  refine vif rfl ⟨(fun ht => by first | exact absurd ht (by decide) | (rw [hne] at ht; exact absurd ht (by decide))), fun hf => ?_⟩
  refine vwp_skip (hNb _ ?_)
  refine vwp_seq_k fun Ne hNe => vreg tt_ok hF rfl ?_; simp only [go_sem, Int.reduceEq, Int.reduceLT, Int.reduceLE, Nat.reduceEqDiff, Nat.reduceAdd, Nat.reduceMul, Nat.reduceLT, Nat.reduceLeDiff, reduceCtorEq, Int.reduceToNat, ofVal_nilI]
  refine hNe _ (VWp.keep [0,1,2,8] [] ?_); simp only [go_sem, Int.reduceEq, Int.reduceLT, Int.reduceLE, Nat.reduceEqDiff, Nat.reduceAdd, Nat.reduceMul, Nat.reduceLT, Nat.reduceLeDiff, reduceCtorEq, Int.reduceToNat, ofVal_nilI]
  refine vwp_seq_k fun Nf hNf => ?_
  refine vwp_seq_k fun Ng hNg => vreg tt_ok hF rfl ?_; simp only [go_sem, Int.reduceEq, Int.reduceLT, Int.reduceLE, Nat.reduceEqDiff, Nat.reduceAdd, Nat.reduceMul, Nat.reduceLT, Nat.reduceLeDiff, reduceCtorEq, Int.reduceToNat, ofVal_nilI]
  refine ⟨by omega, ?_⟩
  refine hNg _ (VWp.keep [0,1,2,8,16] [] ?_); simp only [go_sem, Int.reduceEq, Int.reduceLT, Int.reduceLE, Nat.reduceEqDiff, Nat.reduceAdd, Nat.reduceMul, Nat.reduceLT, Nat.reduceLeDiff, reduceCtorEq, Int.reduceToNat, ofVal_nilI]
  refine vwp_block ?_
  refine vwp_seq_k fun Nh hNh => vreg tt_ok hF rfl ?_; simp only [e43, go_sem, Int.reduceEq, Int.reduceLT, Int.reduceLE, Nat.reduceEqDiff, Nat.reduceAdd, Nat.reduceMul, Nat.reduceLT, Nat.reduceLeDiff, reduceCtorEq, Int.reduceToNat, ofVal_nilI]
  refine hNh _ (VWp.keep [0,1,2,8,16,17] [] ?_); simp only [go_sem, Int.reduceEq, Int.reduceLT, Int.reduceLE, Nat.reduceEqDiff, Nat.reduceAdd, Nat.reduceMul, Nat.reduceLT, Nat.reduceLeDiff, reduceCtorEq, Int.reduceToNat, ofVal_nilI]
  refine vif rfl ⟨(fun ht => by first | exact absurd ht (by decide) | (rw [e43] at ht; exact absurd ht (by decide))), fun hf => ?_⟩
  refine vwp_seq_k fun Naa hNaa => vreg tt_ok hF rfl ?_; simp only [e45, go_sem, Int.reduceEq, Int.reduceLT, Int.reduceLE, Nat.reduceEqDiff, Nat.reduceAdd, Nat.reduceMul, Nat.reduceLT, Nat.reduceLeDiff, reduceCtorEq, Int.reduceToNat, ofVal_nilI]
  refine hNaa _ (VWp.keep [0,1,2,8,21] [] ?_); simp only [go_sem, Int.reduceEq, Int.reduceLT, Int.reduceLE, Nat.reduceEqDiff, Nat.reduceAdd, Nat.reduceMul, Nat.reduceLT, Nat.reduceLeDiff, reduceCtorEq, Int.reduceToNat, ofVal_nilI]
  refine vif rfl ⟨(fun ht => by first | exact absurd ht (by decide) | (rw [e45] at ht; exact absurd ht (by decide))), fun hf => ?_⟩
  refine vwp_skip (hNf _ ?_)
  refine vwp_seq_k fun Ni hNi => vreg tt_ok hF rfl ?_; simp only [go_sem, Int.reduceEq, Int.reduceLT, Int.reduceLE, Nat.reduceEqDiff, Nat.reduceAdd, Nat.reduceMul, Nat.reduceLT, Nat.reduceLeDiff, reduceCtorEq, Int.reduceToNat, ofVal_nilI]
  refine hNi _ (VWp.keepR [0,1,2,8] [] tt_ok hF rfl fun Nj hNj => ?_); simp only [go_sem, Int.reduceEq, Int.reduceLT, Int.reduceLE, Nat.reduceEqDiff, Nat.reduceAdd, Nat.reduceMul, Nat.reduceLT, Nat.reduceLeDiff, reduceCtorEq, Int.reduceToNat, ofVal_nilI]
  refine .inl ⟨_, hpu, ?_⟩; try simp only [go_sem, Int.reduceEq, Int.reduceLT, Int.reduceLE, Nat.reduceEqDiff, Nat.reduceAdd, Nat.reduceMul, Nat.reduceLT, Nat.reduceLeDiff, reduceCtorEq, Int.reduceToNat, ofVal_nilI]
  refine hNj _ (VWp.keep [2,7,8,9] [] ?_); simp only [go_sem, Int.reduceEq, Int.reduceLT, Int.reduceLE, Nat.reduceEqDiff, Nat.reduceAdd, Nat.reduceMul, Nat.reduceLT, Nat.reduceLeDiff, reduceCtorEq, Int.reduceToNat, ofVal_nilI]
  refine vwp_seq_k fun Nk hNk => ?_
  refine vwp_seq_k fun Nl hNl => vreg tt_ok hF rfl ?_; simp only [go_sem, Int.reduceEq, Int.reduceLT, Int.reduceLE, Nat.reduceEqDiff, Nat.reduceAdd, Nat.reduceMul, Nat.reduceLT, Nat.reduceLeDiff, reduceCtorEq, Int.reduceToNat, ofVal_nilI]
  refine hNl _ (VWp.keep [2,7,8,9,38] [] ?_); simp only [go_sem, Int.reduceEq, Int.reduceLT, Int.reduceLE, Nat.reduceEqDiff, Nat.reduceAdd, Nat.reduceMul, Nat.reduceLT, Nat.reduceLeDiff, reduceCtorEq, Int.reduceToNat, ofVal_nilI]
  refine vif rfl ⟨(fun ht => by exact absurd ht (by decide)), fun hf => ?_⟩
  refine vwp_skip (hNk _ ?_)
  refine vwp_seq_k fun Nn hNn => ?_
  refine vwp_seq_k fun No hNo => vreg tt_ok hF rfl ?_; simp only [go_sem, Int.reduceEq, Int.reduceLT, Int.reduceLE, Nat.reduceEqDiff, Nat.reduceAdd, Nat.reduceMul, Nat.reduceLT, Nat.reduceLeDiff, reduceCtorEq, Int.reduceToNat, ofVal_nilI]
  refine hNo _ (VWp.keep [2,8,9,41] [] ?_); simp only [go_sem, Int.reduceEq, Int.reduceLT, Int.reduceLE, Nat.reduceEqDiff, Nat.reduceAdd, Nat.reduceMul, Nat.reduceLT, Nat.reduceLeDiff, reduceCtorEq, Int.reduceToNat, ofVal_nilI]
  refine vif rfl ⟨(fun ht => by exact absurd ht (by decide)), fun hf => ?_⟩
  refine vwp_skip (hNn _ ?_)
  refine vwp_seq_k fun Np hNp => vreg tt_ok hF rfl ?_; simp only [go_sem, Int.reduceEq, Int.reduceLT, Int.reduceLE, Nat.reduceEqDiff, Nat.reduceAdd, Nat.reduceMul, Nat.reduceLT, Nat.reduceLeDiff, reduceCtorEq, Int.reduceToNat, ofVal_nilI]
  try simp only [hcut]
  refine hNp _ (VWp.keep [8,9,10] [] ?_); simp only [go_sem, Int.reduceEq, Int.reduceLT, Int.reduceLE, Nat.reduceEqDiff, Nat.reduceAdd, Nat.reduceMul, Nat.reduceLT, Nat.reduceLeDiff, reduceCtorEq, Int.reduceToNat, ofVal_nilI]
  refine vwp_seq_k fun Nq hNq => ?_
  refine vwp_seq_k fun Nr hNr => vreg tt_ok hF rfl ?_; simp only [e1, go_sem, Int.reduceEq, Int.reduceLT, Int.reduceLE, Nat.reduceEqDiff, Nat.reduceAdd, Nat.reduceMul, Nat.reduceLT, Nat.reduceLeDiff, reduceCtorEq, Int.reduceToNat, ofVal_nilI]
  refine hNr _ (VWp.keep [8,9,10,52] [] ?_); simp only [go_sem, Int.reduceEq, Int.reduceLT, Int.reduceLE, Nat.reduceEqDiff, Nat.reduceAdd, Nat.reduceMul, Nat.reduceLT, Nat.reduceLeDiff, reduceCtorEq, Int.reduceToNat, ofVal_nilI]
  refine vif rfl ⟨(fun ht => by first | exact absurd ht (by decide) | (rw [e1] at ht; exact absurd ht (by decide))), fun hf => ?_⟩
  refine vwp_skip (hNq _ ?_)
  refine vwp_seq_k fun Nt hNt => ?_
  refine vwp_seq_k fun Nu hNu => vreg tt_ok hF rfl ?_; simp only [go_sem, Int.reduceEq, Int.reduceLT, Int.reduceLE, Nat.reduceEqDiff, Nat.reduceAdd, Nat.reduceMul, Nat.reduceLT, Nat.reduceLeDiff, reduceCtorEq, Int.reduceToNat, ofVal_nilI]
  refine hNu _ (VWp.keep [8,9,10,62] [] ?_); simp only [go_sem, Int.reduceEq, Int.reduceLT, Int.reduceLE, Nat.reduceEqDiff, Nat.reduceAdd, Nat.reduceMul, Nat.reduceLT, Nat.reduceLeDiff, reduceCtorEq, Int.reduceToNat, ofVal_nilI]
  refine vif rfl ⟨(fun ht => by exact absurd ht (by decide)), fun hf => ?_⟩
  refine vwp_skip (hNt _ ?_)
  refine vwp_seq_k fun Nw hNw => vreg tt_ok hF rfl ?_; simp only [go_sem, Int.reduceEq, Int.reduceLT, Int.reduceLE, Nat.reduceEqDiff, Nat.reduceAdd, Nat.reduceMul, Nat.reduceLT, Nat.reduceLeDiff, reduceCtorEq, Int.reduceToNat, ofVal_nilI]
  try simp only [hw2]
  refine hNw _ (VWp.keep [8,11] [] ?_); simp only [go_sem, Int.reduceEq, Int.reduceLT, Int.reduceLE, Nat.reduceEqDiff, Nat.reduceAdd, Nat.reduceMul, Nat.reduceLT, Nat.reduceLeDiff, reduceCtorEq, Int.reduceToNat, ofVal_nilI]
  refine vwp_seq_k fun Nx hNx => ?_
  refine vwp_seq_k fun Ny hNy => vreg tt_ok hF rfl ?_; simp only [go_sem, Int.reduceEq, Int.reduceLT, Int.reduceLE, Nat.reduceEqDiff, Nat.reduceAdd, Nat.reduceMul, Nat.reduceLT, Nat.reduceLeDiff, reduceCtorEq, Int.reduceToNat, ofVal_nilI]
  refine hNy _ (VWp.keep [11,69] [] ?_); simp only [go_sem, Int.reduceEq, Int.reduceLT, Int.reduceLE, Nat.reduceEqDiff, Nat.reduceAdd, Nat.reduceMul, Nat.reduceLT, Nat.reduceLeDiff, reduceCtorEq, Int.reduceToNat, ofVal_nilI]
  refine vif rfl ⟨(fun ht => by exact absurd ht (by decide)), fun hf => ?_⟩
  refine vwp_skip (hNx _ ?_)
  refine vwp_seq_k fun Nz hNz => vreg tt_ok hF rfl ?_; simp only [go_sem, Int.reduceEq, Int.reduceLT, Int.reduceLE, Nat.reduceEqDiff, Nat.reduceAdd, Nat.reduceMul, Nat.reduceLT, Nat.reduceLeDiff, reduceCtorEq, Int.reduceToNat, ofVal_nilI]
  refine hNz _ (VWp.keep [6,7] [] ?_); simp only [go_sem, Int.reduceEq, Int.reduceLT, Int.reduceLE, Nat.reduceEqDiff, Nat.reduceAdd, Nat.reduceMul, Nat.reduceLT, Nat.reduceLeDiff, reduceCtorEq, Int.reduceToNat, ofVal_nilI]
  refine vwp_ret ?_
  simp only [go_sem, Int.reduceEq, Int.reduceLT, Int.reduceLE, Nat.reduceEqDiff, Nat.reduceAdd, Nat.reduceMul, Nat.reduceLT, Nat.reduceLeDiff, reduceCtorEq, Int.reduceToNat, ofVal_nilI]
  exact LeV.refl _
set_option maxHeartbeats 8000000 in
set_option maxRecDepth 4000 in
theorem ParsePub_spec (w : Bs) (h3 : w.length = 3) (hw : w.all hexC = true) : Spec Tryz.prog 117 [.str w, .int .i64 16, .int .i64 32] (.tup [.int .i64 (hexT w : Int), .raw .nilIface]) := by
  have hpi := ParseI_spec w h3 hw
  generalize hexT w = v at hpi
  refine spec_of tt_ok Tryz.func117 rfl (by decide) Tryz.ntmps117 (congrArg Array.toList Tryz.results117) (by simp) (by decide) rfl rfl (fun F hF => ?_)
  refine vwp_seq_k fun Na hNa => vreg tt_ok hF rfl ?_; simp only [go_sem, Int.reduceEq, Int.reduceLT, Int.reduceLE, Nat.reduceEqDiff, Nat.reduceAdd, Nat.reduceMul, Nat.reduceLT, Nat.reduceLeDiff, reduceCtorEq, Int.reduceToNat, ofVal_nilI]
  refine hNa _ (VWp.keepR [0,1,2] [] tt_ok hF rfl fun Nb hNb => ?_); simp only [go_sem, Int.reduceEq, Int.reduceLT, Int.reduceLE, Nat.reduceEqDiff, Nat.reduceAdd, Nat.reduceMul, Nat.reduceLT, Nat.reduceLeDiff, reduceCtorEq, Int.reduceToNat, ofVal_nilI]
  refine .inl ⟨_, hpi, ?_⟩; try simp only [go_sem, Int.reduceEq, Int.reduceLT, Int.reduceLE, Nat.reduceEqDiff, Nat.reduceAdd, Nat.reduceMul, Nat.reduceLT, Nat.reduceLeDiff, reduceCtorEq, Int.reduceToNat, ofVal_nilI]
  refine hNb _ (VWp.keep [0,1,2,7,8] [] ?_); simp only [go_sem, Int.reduceEq, Int.reduceLT, Int.reduceLE, Nat.reduceEqDiff, Nat.reduceAdd, Nat.reduceMul, Nat.reduceLT, Nat.reduceLeDiff, reduceCtorEq, Int.reduceToNat, ofVal_nilI]
  refine vwp_seq_k fun Nc hNc => ?_
  refine vwp_seq_k fun Nd hNd => vreg tt_ok hF rfl ?_; simp only [go_sem, Int.reduceEq, Int.reduceLT, Int.reduceLE, Nat.reduceEqDiff, Nat.reduceAdd, Nat.reduceMul, Nat.reduceLT, Nat.reduceLeDiff, reduceCtorEq, Int.reduceToNat, ofVal_nilI]
  refine hNd _ (VWp.keep [0,1,2,7,8,17] [] ?_); simp only [go_sem, Int.reduceEq, Int.reduceLT, Int.reduceLE, Nat.reduceEqDiff, Nat.reduceAdd, Nat.reduceMul, Nat.reduceLT, Nat.reduceLeDiff, reduceCtorEq, Int.reduceToNat, ofVal_nilI]
  refine vif rfl ⟨(fun ht => by exact absurd ht (by decide)), fun hf => ?_⟩
  refine vwp_skip (hNc _ ?_)
  refine vwp_seq_k fun Nf hNf => vreg tt_ok hF rfl ?_; simp only [go_sem, Int.reduceEq, Int.reduceLT, Int.reduceLE, Nat.reduceEqDiff, Nat.reduceAdd, Nat.reduceMul, Nat.reduceLT, Nat.reduceLeDiff, reduceCtorEq, Int.reduceToNat, ofVal_nilI]
  refine hNf _ (VWp.keep [6,7] [] ?_); simp only [go_sem, Int.reduceEq, Int.reduceLT, Int.reduceLE, Nat.reduceEqDiff, Nat.reduceAdd, Nat.reduceMul, Nat.reduceLT, Nat.reduceLeDiff, reduceCtorEq, Int.reduceToNat, ofVal_nilI]
  refine vwp_ret ?_
  simp only [go_sem, Int.reduceEq, Int.reduceLT, Int.reduceLE, Nat.reduceEqDiff, Nat.reduceAdd, Nat.reduceMul, Nat.reduceLT, Nat.reduceLeDiff, reduceCtorEq, Int.reduceToNat, ofVal_nilI]
  exact LeV.refl _
def hexS : Bs := [48, 49, 50, 51, 52, 53, 54, 55, 56, 57, 65, 66, 67, 68, 69, 70]
theorem hex_has : ∀ n < 256, hexS.contains (UInt8.ofNat n) = hexC (UInt8.ofNat n) := by decide +kernel
theorem hexs_all (s : Bs) : s.all hexS.contains = s.all hexC := by
  have : ∀ c : UInt8, hexS.contains c = hexC c := fun c => by have := hex_has c.toNat c.toNat_lt; rwa [UInt8.ofNat_toNat] at this
  rw [show hexS.contains = hexC from funext this]
def addrT (w : Bs) : Int := if decide (w.length = 3) && w.all hexC then (hexT w : Int) else -1
theorem addr_bound (w : Bs) : -1 ≤ addrT w ∧ addrT w < 4096 := by
  unfold addrT
  split
  · rename_i h
    rw [Bool.and_eq_true, decide_eq_true_eq] at h
    have := hexT_lt w h.1 h.2
    omega
  · omega
set_option maxHeartbeats 8000000 in
set_option maxRecDepth 4000 in
theorem address_spec (w : Bs) (hw : w.length ≤ 1000000) : Spec Tryz.prog 91 [.str w] (.int .i64 (addrT w)) := by
  have htr : Spec Tryz.prog 115 [.str w, .str [48, 49, 50, 51, 52, 53, 54, 55, 56, 57, 65, 66, 67, 68, 69, 70]] (.str (Lib.trimS w hexS)) := Trim_spec w hexS hw (by decide) (by decide)
  have htn : decide (Lib.trimS w hexS = []) = w.all hexC := by rw [trim_nil, hexs_all]
  have hat : addrT w = if decide (w.length = 3) && w.all hexC then (hexT w : Int) else -1 := rfl
  generalize Lib.trimS w hexS = T at *
  by_cases c1 : w.length = 3
  · have e1 : decide ((w.length : Int) = 3) = true := decide_eq_true (by omega)
    rw [decide_eq_true c1, Bool.true_and] at hat
    rcases c2 : w.all hexC with _ | _
    · rw [c2, if_neg (by simp)] at hat
      rw [c2] at htn
      rw [hat]
      refine spec_of tt_ok Tryz.func91 rfl (by decide) Tryz.ntmps91 (congrArg Array.toList Tryz.results91) (by simp) (by decide) rfl rfl (fun F hF => ?_)
      refine vwp_seq_k fun Na hNa => vreg tt_ok hF rfl ?_; simp only [go_sem, Int.reduceEq, Int.reduceLT, Int.reduceLE, Nat.reduceEqDiff, Nat.reduceAdd, Nat.reduceMul, Nat.reduceLT, Nat.reduceLeDiff, reduceCtorEq, Int.reduceToNat, ofVal_nilI]
      refine hNa _ (VWp.keep [0] [] ?_); simp only [go_sem, Int.reduceEq, Int.reduceLT, Int.reduceLE, Nat.reduceEqDiff, Nat.reduceAdd, Nat.reduceMul, Nat.reduceLT, Nat.reduceLeDiff, reduceCtorEq, Int.reduceToNat, ofVal_nilI]
      refine vwp_seq_k fun Nb hNb => ?_
      refine vwp_seq_k fun Nc hNc => vreg tt_ok hF rfl ?_; simp only [e1, go_sem, Int.reduceEq, Int.reduceLT, Int.reduceLE, Nat.reduceEqDiff, Nat.reduceAdd, Nat.reduceMul, Nat.reduceLT, Nat.reduceLeDiff, reduceCtorEq, Int.reduceToNat, ofVal_nilI]
      refine .inl ⟨_, htr, ?_⟩; try simp only [go_sem, Int.reduceEq, Int.reduceLT, Int.reduceLE, Nat.reduceEqDiff, Nat.reduceAdd, Nat.reduceMul, Nat.reduceLT, Nat.reduceLeDiff, reduceCtorEq, Int.reduceToNat, ofVal_nilI]
      simp only [htn, go_sem, Int.reduceEq, Int.reduceLT, Int.reduceLE, Nat.reduceEqDiff, Nat.reduceAdd, Nat.reduceMul, Nat.reduceLT, Nat.reduceLeDiff, reduceCtorEq, Int.reduceToNat, ofVal_nilI]
      refine hNc _ (VWp.keep [0,12] [] ?_); simp only [go_sem, Int.reduceEq, Int.reduceLT, Int.reduceLE, Nat.reduceEqDiff, Nat.reduceAdd, Nat.reduceMul, Nat.reduceLT, Nat.reduceLeDiff, reduceCtorEq, Int.reduceToNat, ofVal_nilI]
      refine vif rfl ⟨fun ht => ?_, (fun hf => by first | exact absurd hf (by decide) | simp at hf)⟩
      refine vwp_seq_k fun Nd hNd => vreg tt_ok hF rfl ?_; simp only [go_sem, Int.reduceEq, Int.reduceLT, Int.reduceLE, Nat.reduceEqDiff, Nat.reduceAdd, Nat.reduceMul, Nat.reduceLT, Nat.reduceLeDiff, reduceCtorEq, Int.reduceToNat, ofVal_nilI]
      refine hNd _ (VWp.keep [2] [] ?_); simp only [go_sem, Int.reduceEq, Int.reduceLT, Int.reduceLE, Nat.reduceEqDiff, Nat.reduceAdd, Nat.reduceMul, Nat.reduceLT, Nat.reduceLeDiff, reduceCtorEq, Int.reduceToNat, ofVal_nilI]
      refine vwp_ret ?_
      simp only [go_sem, Int.reduceEq, Int.reduceLT, Int.reduceLE, Nat.reduceEqDiff, Nat.reduceAdd, Nat.reduceMul, Nat.reduceLT, Nat.reduceLeDiff, reduceCtorEq, Int.reduceToNat, ofVal_nilI]
      exact LeV.refl _
    · have hp := ParsePub_spec w c1 c2
      have hlt := hexT_lt w c1 c2
      have hwr : IntKind.i64.wrap (hexT w : Int) = (hexT w : Int) := wrap_i64 (by omega) (by omega)
      rw [c2, if_pos rfl] at hat
      rw [c2] at htn
      rw [hat]
      refine spec_of tt_ok Tryz.func91 rfl (by decide) Tryz.ntmps91 (congrArg Array.toList Tryz.results91) (by simp) (by decide) rfl rfl (fun F hF => ?_)
      refine vwp_seq_k fun Na hNa => vreg tt_ok hF rfl ?_; simp only [go_sem, Int.reduceEq, Int.reduceLT, Int.reduceLE, Nat.reduceEqDiff, Nat.reduceAdd, Nat.reduceMul, Nat.reduceLT, Nat.reduceLeDiff, reduceCtorEq, Int.reduceToNat, ofVal_nilI]
      refine hNa _ (VWp.keep [0] [] ?_); simp only [go_sem, Int.reduceEq, Int.reduceLT, Int.reduceLE, Nat.reduceEqDiff, Nat.reduceAdd, Nat.reduceMul, Nat.reduceLT, Nat.reduceLeDiff, reduceCtorEq, Int.reduceToNat, ofVal_nilI]
      refine vwp_seq_k fun Nb hNb => ?_
      refine vwp_seq_k fun Nc hNc => vreg tt_ok hF rfl ?_; simp only [e1, go_sem, Int.reduceEq, Int.reduceLT, Int.reduceLE, Nat.reduceEqDiff, Nat.reduceAdd, Nat.reduceMul, Nat.reduceLT, Nat.reduceLeDiff, reduceCtorEq, Int.reduceToNat, ofVal_nilI]
      refine .inl ⟨_, htr, ?_⟩; try simp only [go_sem, Int.reduceEq, Int.reduceLT, Int.reduceLE, Nat.reduceEqDiff, Nat.reduceAdd, Nat.reduceMul, Nat.reduceLT, Nat.reduceLeDiff, reduceCtorEq, Int.reduceToNat, ofVal_nilI]
      simp only [htn, go_sem, Int.reduceEq, Int.reduceLT, Int.reduceLE, Nat.reduceEqDiff, Nat.reduceAdd, Nat.reduceMul, Nat.reduceLT, Nat.reduceLeDiff, reduceCtorEq, Int.reduceToNat, ofVal_nilI]
      refine hNc _ (VWp.keep [0,12] [] ?_); simp only [go_sem, Int.reduceEq, Int.reduceLT, Int.reduceLE, Nat.reduceEqDiff, Nat.reduceAdd, Nat.reduceMul, Nat.reduceLT, Nat.reduceLeDiff, reduceCtorEq, Int.reduceToNat, ofVal_nilI]
      refine vif rfl ⟨(fun ht => by first | exact absurd ht (by decide) | simp at ht), fun hf => ?_⟩
      refine vwp_skip (hNb _ ?_)
      refine vwp_seq_k fun Ne hNe => vreg tt_ok hF rfl ?_; simp only [go_sem, Int.reduceEq, Int.reduceLT, Int.reduceLE, Nat.reduceEqDiff, Nat.reduceAdd, Nat.reduceMul, Nat.reduceLT, Nat.reduceLeDiff, reduceCtorEq, Int.reduceToNat, ofVal_nilI]
      refine .inl ⟨_, hp, ?_⟩; try simp only [go_sem, Int.reduceEq, Int.reduceLT, Int.reduceLE, Nat.reduceEqDiff, Nat.reduceAdd, Nat.reduceMul, Nat.reduceLT, Nat.reduceLeDiff, reduceCtorEq, Int.reduceToNat, ofVal_nilI]
      refine hNe _ (VWp.keepR [3] [] tt_ok hF rfl fun Nf hNf => ?_); simp only [go_sem, Int.reduceEq, Int.reduceLT, Int.reduceLE, Nat.reduceEqDiff, Nat.reduceAdd, Nat.reduceMul, Nat.reduceLT, Nat.reduceLeDiff, reduceCtorEq, Int.reduceToNat, ofVal_nilI]
      refine hNf _ (VWp.keep [2] [] ?_); simp only [go_sem, Int.reduceEq, Int.reduceLT, Int.reduceLE, Nat.reduceEqDiff, Nat.reduceAdd, Nat.reduceMul, Nat.reduceLT, Nat.reduceLeDiff, reduceCtorEq, Int.reduceToNat, ofVal_nilI]
      refine vwp_ret ?_
      simp only [go_sem, Int.reduceEq, Int.reduceLT, Int.reduceLE, Nat.reduceEqDiff, Nat.reduceAdd, Nat.reduceMul, Nat.reduceLT, Nat.reduceLeDiff, reduceCtorEq, Int.reduceToNat, ofVal_nilI]
      exact LeV.refl _
  · have e1 : decide ((w.length : Int) = 3) = false := decide_eq_false (by omega)
    rw [decide_eq_false c1, Bool.false_and, if_neg (by simp)] at hat
    rw [hat]
    refine spec_of tt_ok Tryz.func91 rfl (by decide) Tryz.ntmps91 (congrArg Array.toList Tryz.results91) (by simp) (by decide) rfl rfl (fun F hF => ?_)
    refine vwp_seq_k fun Na hNa => vreg tt_ok hF rfl ?_; simp only [go_sem, Int.reduceEq, Int.reduceLT, Int.reduceLE, Nat.reduceEqDiff, Nat.reduceAdd, Nat.reduceMul, Nat.reduceLT, Nat.reduceLeDiff, reduceCtorEq, Int.reduceToNat, ofVal_nilI]
    refine hNa _ (VWp.keep [0] [] ?_); simp only [go_sem, Int.reduceEq, Int.reduceLT, Int.reduceLE, Nat.reduceEqDiff, Nat.reduceAdd, Nat.reduceMul, Nat.reduceLT, Nat.reduceLeDiff, reduceCtorEq, Int.reduceToNat, ofVal_nilI]
    refine vwp_seq_k fun Nb hNb => ?_
    refine vwp_seq_k fun Nc hNc => vreg tt_ok hF rfl ?_; simp only [e1, go_sem, Int.reduceEq, Int.reduceLT, Int.reduceLE, Nat.reduceEqDiff, Nat.reduceAdd, Nat.reduceMul, Nat.reduceLT, Nat.reduceLeDiff, reduceCtorEq, Int.reduceToNat, ofVal_nilI]
    refine hNc _ (VWp.keep [0,12] [] ?_); simp only [go_sem, Int.reduceEq, Int.reduceLT, Int.reduceLE, Nat.reduceEqDiff, Nat.reduceAdd, Nat.reduceMul, Nat.reduceLT, Nat.reduceLeDiff, reduceCtorEq, Int.reduceToNat, ofVal_nilI]
    refine vif rfl ⟨fun ht => ?_, (fun hf => by exact absurd hf (by decide))⟩
    refine vwp_seq_k fun Nd hNd => vreg tt_ok hF rfl ?_; simp only [go_sem, Int.reduceEq, Int.reduceLT, Int.reduceLE, Nat.reduceEqDiff, Nat.reduceAdd, Nat.reduceMul, Nat.reduceLT, Nat.reduceLeDiff, reduceCtorEq, Int.reduceToNat, ofVal_nilI]
    refine hNd _ (VWp.keep [2] [] ?_); simp only [go_sem, Int.reduceEq, Int.reduceLT, Int.reduceLE, Nat.reduceEqDiff, Nat.reduceAdd, Nat.reduceMul, Nat.reduceLT, Nat.reduceLeDiff, reduceCtorEq, Int.reduceToNat, ofVal_nilI]
    refine vwp_ret ?_
    simp only [go_sem, Int.reduceEq, Int.reduceLT, Int.reduceLE, Nat.reduceEqDiff, Nat.reduceAdd, Nat.reduceMul, Nat.reduceLT, Nat.reduceLeDiff, reduceCtorEq, Int.reduceToNat, ofVal_nilI]
    exact LeV.refl _
end Go.Proofs.YtedbbinlcdgkoaaGreatDoor
