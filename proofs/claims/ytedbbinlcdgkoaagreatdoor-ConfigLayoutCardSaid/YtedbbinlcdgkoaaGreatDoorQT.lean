import Derived.Outline
import Derived.Test.YtedbbinlcdgkoaaGreatDoorQS
/- Layer 19: Parse. -/
namespace Go.Proofs.YtedbbinlcdgkoaaGreatDoor
open Go.RowKit
-- FUSE
-- LESS
set_option linter.unusedVariables false
set_option linter.unusedSimpArgs false
theorem ofVal_nilFn : ofVal .nilFunc = .raw .nilFunc := rfl
attribute [go_sem] ofVal_nilFn
def resC (r : CfgT × Int × Int) : V := .tup [.agg (cfgC r.1), .int .i64 r.2.1, .int .i64 r.2.2]
theorem leZero {a b : Int} : LeV (.tup [.agg [.nil, .int .i64 0, .nil], .int .i64 a, .int .i64 b]) (.tup [.agg (cfgC zeroC), .int .i64 a, .int .i64 b]) :=
  LeV.tup ⟨LeV.agg ⟨LeV.nil 5, LeV.refl _, LeV.nil 2, trivial⟩, LeV.refl _, LeV.refl _, trivial⟩
set_option maxHeartbeats 32000000 in
set_option maxRecDepth 4000 in
theorem Parse_spec (t : Bs) (ht : t.length ≤ 1000000) : Spec Tryz.prog 18 [.str t] (resC (parseT t)) := by
  obtain ⟨R, hR⟩ : ∃ R, parseT t = R := ⟨_, rfl⟩
  have hR2 := hR
  unfold parseT at hR2
  rw [hR]
  unfold resC
  refine spec_of tt_ok Tryz.func18 rfl (by decide) Tryz.ntmps18 (congrArg Array.toList Tryz.results18) (by simp) (by decide) rfl rfl (fun F hF => ?_)
  refine vwp_seq_k fun Na hNa => vreg tt_ok hF rfl ?_; simp only [go_sem, Int.reduceEq, Int.reduceLT, Nat.reduceEqDiff, Nat.reduceAdd, Nat.reduceMul, Nat.reduceLT, Nat.reduceLeDiff, Int.reduceToNat]
  refine hNa _ (VWp.keep [0,2] [2] ?_); simp only [go_sem, Int.reduceEq, Int.reduceLT, Nat.reduceEqDiff, Nat.reduceAdd, Nat.reduceMul, Nat.reduceLT, Nat.reduceLeDiff, Int.reduceToNat]
  refine vwp_seq_k fun Nb hNb => ?_
  refine vwp_seq_k fun Nc hNc => vreg tt_ok hF rfl ?_; simp only [go_sem, Int.reduceEq, Int.reduceLT, Nat.reduceEqDiff, Nat.reduceAdd, Nat.reduceMul, Nat.reduceLT, Nat.reduceLeDiff, Int.reduceToNat]
  refine hNc _ (VWp.keep [0,2,15] [2] ?_); simp only [go_sem, Int.reduceEq, Int.reduceLT, Nat.reduceEqDiff, Nat.reduceAdd, Nat.reduceMul, Nat.reduceLT, Nat.reduceLeDiff, Int.reduceToNat]
  refine vif rfl ⟨fun htr => ?_, fun hfa => ?_⟩
  · have hlong : 65536 < t.length := by have := of_decide_eq_true htr; omega
    rw [if_pos hlong] at hR2
    rw [← hR2]
    refine vwp_seq_k fun Nd hNd => vreg tt_ok hF rfl ?_; simp only [go_sem, Int.reduceEq, Int.reduceLT, Nat.reduceEqDiff, Nat.reduceAdd, Nat.reduceMul, Nat.reduceLT, Nat.reduceLeDiff, Int.reduceToNat]
    refine hNd _ (VWp.keep [2,3,4] [2] ?_); simp only [go_sem, Int.reduceEq, Int.reduceLT, Nat.reduceEqDiff, Nat.reduceAdd, Nat.reduceMul, Nat.reduceLT, Nat.reduceLeDiff, Int.reduceToNat]
    refine vwp_ret ?_
    simp only [go_sem, Int.reduceEq, Int.reduceLT, Nat.reduceEqDiff, Nat.reduceAdd, Nat.reduceMul, Nat.reduceLT, Nat.reduceLeDiff, Int.reduceToNat]
    exact leZero
  · have hshort : ¬ 65536 < t.length := by have := of_decide_eq_false hfa; omega
    rw [if_neg hshort] at hR2
    have hspl := Split_spec t ht
    obtain ⟨hp1, hp2⟩ := split_props 10 t
    obtain ⟨L, hL⟩ : ∃ L, splitAtC 10 t = L := ⟨_, rfl⟩
    rw [hL] at hspl hp1 hp2 hR2
    refine vwp_skip (hNb _ ?_)
    refine vwp_seq_k fun Ne hNe => vreg tt_ok hF rfl ?_; simp only [go_sem, Int.reduceEq, Int.reduceLT, Nat.reduceEqDiff, Nat.reduceAdd, Nat.reduceMul, Nat.reduceLT, Nat.reduceLeDiff, Int.reduceToNat]
    refine hNe _ (VWp.keep [0,2,5] [2,5] ?_); simp only [go_sem, Int.reduceEq, Int.reduceLT, Nat.reduceEqDiff, Nat.reduceAdd, Nat.reduceMul, Nat.reduceLT, Nat.reduceLeDiff, Int.reduceToNat]
    refine VWp.adoptB 500011 5 58 (o := 5) (i := 0) rfl rfl rfl (by decide) ?_
    simp only [go_sem, Int.reduceEq, Int.reduceLT, Nat.reduceEqDiff, Nat.reduceAdd, Nat.reduceMul, Nat.reduceLT, Nat.reduceLeDiff, Int.reduceToNat]
    refine VWp.adoptB 500012 2 65 (o := 5) (i := 2) rfl rfl rfl (by decide) ?_
    refine VWp.keep [0,2,5] [2,5,500011,500012] ?_; simp only [go_sem, Int.reduceEq, Int.reduceLT, Nat.reduceEqDiff, Nat.reduceAdd, Nat.reduceMul, Nat.reduceLT, Nat.reduceLeDiff, Int.reduceToNat]
    refine vwp_seq_k fun Nf hNf => vreg tt_ok hF rfl ?_; simp only [go_sem, Int.reduceEq, Int.reduceLT, Nat.reduceEqDiff, Nat.reduceAdd, Nat.reduceMul, Nat.reduceLT, Nat.reduceLeDiff, Int.reduceToNat]
    refine .inr (bxo [(1, 17)] rfl ?_); simp only [go_sem, Int.reduceEq, Int.reduceLT, Nat.reduceEqDiff, Nat.reduceAdd, Nat.reduceMul, Nat.reduceLT, Nat.reduceLeDiff, Int.reduceToNat]; refine ⟨_, _, statements_B, ?_⟩; try simp only [go_sem, Int.reduceEq, Int.reduceLT, Nat.reduceEqDiff, Nat.reduceAdd, Nat.reduceMul, Nat.reduceLT, Nat.reduceLeDiff, Int.reduceToNat]
    refine hNf _ (VWp.keep [0,2,5,6] [2,5,17,500011,500012] ?_); simp only [go_sem, Int.reduceEq, Int.reduceLT, Nat.reduceEqDiff, Nat.reduceAdd, Nat.reduceMul, Nat.reduceLT, Nat.reduceLeDiff, Int.reduceToNat]
    refine vwp_seq_k fun Ng hNg => ?_
    refine vwp_seq_k fun Nh hNh => vreg tt_ok hF rfl ?_; simp only [go_sem, Int.reduceEq, Int.reduceLT, Nat.reduceEqDiff, Nat.reduceAdd, Nat.reduceMul, Nat.reduceLT, Nat.reduceLeDiff, Int.reduceToNat]
    refine .inl ⟨_, hspl, ?_⟩; try simp only [go_sem, Int.reduceEq, Int.reduceLT, Nat.reduceEqDiff, Nat.reduceAdd, Nat.reduceMul, Nat.reduceLT, Nat.reduceLeDiff, Int.reduceToNat]
    refine hNh _ (VWp.keep [2,5,6,19,20,21] [2,5,17,500011,500012] ?_); simp only [go_sem, Int.reduceEq, Int.reduceLT, Nat.reduceEqDiff, Nat.reduceAdd, Nat.reduceMul, Nat.reduceLT, Nat.reduceLeDiff, Int.reduceToNat]
    refine vwp_block ?_
    refine vloop (fun z : Nat × CfgT => [(2, .ptr 2 0), (5, .ptr 5 0), (6, .mp 17), (19, .sl 1 (L.map strR)), (20, .int .i64 (L.length : Int)), (21, .int .i64 (z.1 : Int))]) (fun z => [(2, .box 25 [.nil, .int .i64 0, .nil]), (5, .box 25 [.own 500011 (z.2.us.map uniC).length, .int .i64 z.2.store, .own 500012 (z.2.ps.map parC).length]), (500011, .arr 5 58 (z.2.us.map uniC)), (500012, .arr 2 65 (z.2.ps.map parC)), (17, .map staM)])
      (fun z => z.1 ≤ L.length ∧ InvC z.2 ∧ goT zeroC L 0 = goT z.2 (L.drop z.1) z.1) (fun z => L.length - z.1) (0, zeroC) ⟨Nat.zero_le _, inv_zero, rfl⟩ (by simp only [zeroC, List.map_nil, List.length_nil, go_sem, Int.reduceEq, Int.reduceLT, Nat.reduceEqDiff, Nat.reduceAdd, Nat.reduceMul, Nat.reduceLT, Nat.reduceLeDiff, Int.reduceToNat]; try rfl) ?_
    rintro ⟨k, c⟩ ⟨hk, hinv, hgo⟩
    simp only at hk hinv hgo
    refine vwp_seq_k fun Ni hNi => vreg tt_ok hF rfl ?_; simp only [go_sem, Int.reduceEq, Int.reduceLT, Nat.reduceEqDiff, Nat.reduceAdd, Nat.reduceMul, Nat.reduceLT, Nat.reduceLeDiff, Int.reduceToNat]
    refine hNi _ (VWp.keep [2,5,6,19,20,21,22] [2,5,17,500011,500012] ?_); simp only [go_sem, Int.reduceEq, Int.reduceLT, Nat.reduceEqDiff, Nat.reduceAdd, Nat.reduceMul, Nat.reduceLT, Nat.reduceLeDiff, Int.reduceToNat]
    refine vwp_seq_k fun Nj hNj => ?_
    refine vif rfl ⟨fun htr => ?_, fun hfa => ?_⟩
    · have hlt : k < L.length := by have := of_decide_eq_true htr; omega
      have hget := str_row hlt
      obtain ⟨ln, hln⟩ : ∃ ln, L[k] = ln := ⟨_, rfl⟩
      rw [hln] at hget
      have hlnl : ln.length ≤ 65536 := by have := hp1 L[k] (List.getElem_mem hlt); rw [hln] at this; omega
      have hdrop : L.drop k = ln :: L.drop (k + 1) := by rw [List.drop_eq_getElem_cons hlt, hln]
      rw [hdrop] at hgo
      obtain ⟨hw1, hw2⟩ := words_props ln
      have hwo := words_spec ln
      refine vwp_skip (hNj _ ?_)
      refine vmeet (fun c' : CfgT => [(2, .ptr 2 0), (5, .ptr 5 0), (6, .mp 17), (19, .sl 1 (L.map strR)), (20, .int .i64 (L.length : Int)), (21, .int .i64 (k : Int))]) (fun c' => [(2, .box 25 [.nil, .int .i64 0, .nil]), (5, .box 25 [.own 500011 (c'.us.map uniC).length, .int .i64 c'.store, .own 500012 (c'.ps.map parC).length]), (500011, .arr 5 58 (c'.us.map uniC)), (500012, .arr 2 65 (c'.ps.map parC)), (17, .map staM)]) (fun c' => stepT c ln = some c') ?_ ?_
      · refine vwp_block ?_
        refine vwp_seq_k fun Nl hNl => vreg tt_ok hF rfl ?_; simp only [hget, List.length_map, Int.toNat_natCast, go_sem, Int.reduceEq, Int.reduceLT, Nat.reduceEqDiff, Nat.reduceAdd, Nat.reduceMul, Nat.reduceLT, Nat.reduceLeDiff, Int.reduceToNat]
        refine ⟨⟨by omega, by omega⟩, ?_⟩
        refine hNl _ (VWp.keepR [2,5,6,7,8,19,20,21] [2,5,17,500011,500012] tt_ok hF rfl fun Nm hNm => ?_); simp only [go_sem, Int.reduceEq, Int.reduceLT, Nat.reduceEqDiff, Nat.reduceAdd, Nat.reduceMul, Nat.reduceLT, Nat.reduceLeDiff, Int.reduceToNat]
        refine hNm _ (VWp.keep [2,5,6,7,8,9,19,20,21] [2,5,9,17,500011,500012] ?_); simp only [go_sem, Int.reduceEq, Int.reduceLT, Nat.reduceEqDiff, Nat.reduceAdd, Nat.reduceMul, Nat.reduceLT, Nat.reduceLeDiff, Int.reduceToNat]
        refine VWp.adoptB 500021 1 9 (o := 9) (i := 0) rfl rfl rfl (by decide) ?_
        refine VWp.keep [2,5,6,7,8,9,19,20,21] [2,5,9,17,500011,500012,500021] ?_; simp only [go_sem, Int.reduceEq, Int.reduceLT, Nat.reduceEqDiff, Nat.reduceAdd, Nat.reduceMul, Nat.reduceLT, Nat.reduceLeDiff, Int.reduceToNat]
        refine vwp_seq_k fun Nn hNn => ?_
        refine vwp_seq_k fun No hNo => vreg tt_ok hF rfl ?_; simp only [go_sem, Int.reduceEq, Int.reduceLT, Nat.reduceEqDiff, Nat.reduceAdd, Nat.reduceMul, Nat.reduceLT, Nat.reduceLeDiff, Int.reduceToNat]
        refine .inl ⟨_, hwo, ?_⟩; try simp only [go_sem, Int.reduceEq, Int.reduceLT, Nat.reduceEqDiff, Nat.reduceAdd, Nat.reduceMul, Nat.reduceLT, Nat.reduceLeDiff, Int.reduceToNat]
        refine hNo _ (VWp.keep [2,5,6,7,9,19,20,21,27] [2,5,9,17,500011,500012,500021] ?_); simp only [go_sem, Int.reduceEq, Int.reduceLT, Nat.reduceEqDiff, Nat.reduceAdd, Nat.reduceMul, Nat.reduceLT, Nat.reduceLeDiff, Int.reduceToNat]
        refine vwp_block ?_
        refine VWp.collect tt_ok (tS := 51) (tE := 9) rfl rfl hF (gf := 100) (pf := 71) (line := ln) (ws := wordsT ln) (d := 500021) 3 (ln.length + 2) (by decide) rfl (fun args w => run_callFunc_enter ⟨_, Tryz.func100, rfl, by decide⟩ args w)
          (fun W sA fA h1 h2 hG => fields_seq 2 (by decide) ln (by omega) W sA fA h1 h2 hG) (by omega) rfl rfl rfl (by decide) (by decide) (by decide) (by decide) (by decide) (by decide) (by decide) (by decide) (by decide) (by decide) ?_
        obtain ⟨ws, hws⟩ : ∃ ws, wordsT ln = ws := ⟨_, rfl⟩
        have hstep : stepT c ln = if voidT ws then some c else lineT c ws := by unfold stepT; rw [hws]
        rw [hws] at hw1 hw2
        rw [hws, show txtR ws = ws.map strR from rfl]
        refine hNn _ (VWp.keep [2,5,6,7,9,19,20,21] [2,5,9,17,500011,500012,500021] ?_); simp only [List.length_map, Nat.le_refl, go_sem, Int.reduceEq, Int.reduceLT, Nat.reduceEqDiff, Nat.reduceAdd, Nat.reduceMul, Nat.reduceLT, Nat.reduceLeDiff, Int.reduceToNat]
        refine vwp_seq_k fun Nq hNq => ?_
        cases ws with
        | nil =>
          have hvd : voidT [] = true := rfl
          refine vwp_seq_k fun Nr hNr => vreg tt_ok hF rfl ?_; simp only [List.length_nil, go_sem, Int.reduceEq, Int.reduceLT, Nat.reduceEqDiff, Nat.reduceAdd, Nat.reduceMul, Nat.reduceLT, Nat.reduceLeDiff, Int.reduceToNat]
          refine hNr _ (VWp.keep [2,5,6,7,9,19,20,21,42] [2,5,9,17,500011,500012,500021] ?_); simp only [go_sem, Int.reduceEq, Int.reduceLT, Nat.reduceEqDiff, Nat.reduceAdd, Nat.reduceMul, Nat.reduceLT, Nat.reduceLeDiff, Int.reduceToNat]
          refine vif rfl ⟨fun _ => ?_, (fun hf => by exact absurd hf (by decide))⟩
          refine vwp_exit ?_
          simp only [go_sem, Int.reduceEq, Int.reduceLT, Nat.reduceEqDiff, Nat.reduceAdd, Nat.reduceMul, Nat.reduceLT, Nat.reduceLeDiff, Int.reduceToNat]
          exact ⟨c, by rw [hstep, hvd]; rfl, by simp⟩
        | cons w0 wr =>
          obtain ⟨hwn, hwl⟩ := hw1 w0 List.mem_cons_self
          have hwl0 : 0 < w0.length := by cases w0 with | nil => exact absurd rfl hwn | cons => simp
          have e0 : decide (((w0 :: wr).length : Int) = 0) = false := decide_eq_false (by simp only [List.length_cons]; omega)
          have hg0 : ((w0 :: wr).map strR).getD 0 [] = [.str w0] := rfl
          have hh : w0.headD 0 = w0.getD 0 0 := by cases w0 <;> rfl
          have hvd : voidT (w0 :: wr) = decide ((((w0.getD 0 0).toNat : Nat) : Int) = 42) := by
            unfold voidT
            rw [decide_eq_false (by simp), Bool.false_or, List.headD_cons, hh]
            apply decide_eq_decide.2
            constructor
            · intro q; rw [q]; rfl
            · intro q; exact UInt8.toNat_inj.1 (by have : (w0.getD 0 0).toNat = 42 := by omega
                                                   rw [this]; rfl)
          have hwlen : (w0 :: wr).length ≤ 1000000 := by omega
          obtain ⟨W, hW⟩ : ∃ W, w0 :: wr = W := ⟨_, rfl⟩
          have hhead : W.headD [] = w0 := by rw [← hW]; rfl
          have hWl : 1 ≤ W.length := by rw [← hW]; simp
          have hww : ∀ x ∈ W, x.length ≤ 1000000 := fun x hx => by rw [← hW] at hx; have := (hw1 x hx).2; omega
          rw [hW] at e0 hg0 hvd hwlen hstep ⊢
          rcases hv : decide ((((w0.getD 0 0).toNat : Nat) : Int) = 42) with _ | _
          · rw [hv] at hvd
            refine vwp_seq_k fun Nr hNr => vreg tt_ok hF rfl ?_; simp only [e0, hg0, hv, List.length_map, go_sem, Int.reduceEq, Int.reduceLT, Nat.reduceEqDiff, Nat.reduceAdd, Nat.reduceMul, Nat.reduceLT, Nat.reduceLeDiff, Int.reduceToNat]
            refine ⟨by omega, by omega, ?_⟩
            refine hNr _ (VWp.keep [2,5,6,7,9,19,20,21,42] [2,5,9,17,500011,500012,500021] ?_); simp only [go_sem, Int.reduceEq, Int.reduceLT, Nat.reduceEqDiff, Nat.reduceAdd, Nat.reduceMul, Nat.reduceLT, Nat.reduceLeDiff, Int.reduceToNat]
            refine vif rfl ⟨(fun ht => by first | exact absurd ht (by decide) | (rw [hv] at ht; exact absurd ht (by decide))), fun _ => ?_⟩
            refine vwp_skip (hNq _ ?_)
            have hfi0 := sta_find w0
            have hfail : stepT c ln = none → R = (zeroC, ((k + 1 : Nat) : Int), 190) := fun q => by
              rw [← hR2, hgo, goT, q]
              simp
            have hfw : IntKind.i64.wrap ((k : Int) + 1) = ((k + 1 : Nat) : Int) := by rw [wrap_i64 (by omega) (by omega)]; omega
            by_cases hw : w0 = kStore
            · have hfi : findM staM w0 = some (.agg [.int .i64 2, .fn (.func 66) []]) := by rw [hfi0, if_pos hw]
              have hline : lineT c W = if decide (2 ≤ W.length) && (storeT c W).2 then some (storeT c W).1 else none := by unfold lineT; rw [hhead, if_pos hw]
              refine vwp_seq_k fun Nu hNu => vreg tt_ok hF rfl ?_; simp only [hg0, hfi, go_sem, Int.reduceEq, Int.reduceLT, Nat.reduceEqDiff, Nat.reduceAdd, Nat.reduceMul, Nat.reduceLT, Nat.reduceLeDiff, Int.reduceToNat]
              refine ⟨by omega, ?_⟩
              refine hNu _ (VWp.keep [2,5,6,7,9,11,12,19,20,21] [2,5,9,11,17,500011,500012,500021] ?_); simp only [go_sem, Int.reduceEq, Int.reduceLT, Nat.reduceEqDiff, Nat.reduceAdd, Nat.reduceMul, Nat.reduceLT, Nat.reduceLeDiff, Int.reduceToNat]
              by_cases hle : 2 ≤ W.length
              · have e1 : decide ((W.length : Int) < 2) = false := decide_eq_false (by omega)
                rw [decide_eq_true hle, Bool.true_and] at hline
                have hdo := doStore_B c W hle hww hwlen
                unfold cfgO at hdo
                obtain ⟨Z, hZ⟩ : ∃ Z, storeT c W = Z := ⟨_, rfl⟩
                rw [hZ] at hdo hline
                obtain ⟨c', b⟩ := Z
                rw [List.length_map, List.length_map, List.length_map, List.length_map] at hdo
                refine vwp_seq_k fun Nx hNx => vreg tt_ok hF rfl ?_; simp only [e1, go_sem, Int.reduceEq, Int.reduceLT, Nat.reduceEqDiff, Nat.reduceAdd, Nat.reduceMul, Nat.reduceLT, Nat.reduceLeDiff, Int.reduceToNat]
                refine .inr (bxo [(1000000, 5), (1000011, 500011), (1000002, 500012)] rfl ?_)
                simp only [go_sem, Int.reduceEq, Int.reduceLT, Nat.reduceEqDiff, Nat.reduceAdd, Nat.reduceMul, Nat.reduceLT, Nat.reduceLeDiff, Int.reduceToNat]
                refine ⟨_, _, hdo, ?_⟩
                try simp only [go_sem, Int.reduceEq, Int.reduceLT, Nat.reduceEqDiff, Nat.reduceAdd, Nat.reduceMul, Nat.reduceLT, Nat.reduceLeDiff, Int.reduceToNat]
                refine hNx _ (VWp.keep [2,5,6,7,19,20,21,66] [2,5,17,500011,500012] ?_); simp only [go_sem, Int.reduceEq, Int.reduceLT, Nat.reduceEqDiff, Nat.reduceAdd, Nat.reduceMul, Nat.reduceLT, Nat.reduceLeDiff, Int.reduceToNat]
                rcases b with _ | _
                · have hst : stepT c ln = none := by rw [hstep, hvd, if_neg (by decide), hline]; rfl
                  refine vif rfl ⟨fun _ => ?_, (fun hf => by exact absurd hf (by decide))⟩
                  refine vwp_seq_k fun Nw hNw => vreg tt_ok hF rfl ?_; simp only [hfw, go_sem, Int.reduceEq, Int.reduceLT, Nat.reduceEqDiff, Nat.reduceAdd, Nat.reduceMul, Nat.reduceLT, Nat.reduceLeDiff, Int.reduceToNat]
                  refine hNw _ (VWp.keep [2,3,4] [2] ?_); simp only [go_sem, Int.reduceEq, Int.reduceLT, Nat.reduceEqDiff, Nat.reduceAdd, Nat.reduceMul, Nat.reduceLT, Nat.reduceLeDiff, Int.reduceToNat]
                  refine vwp_ret ?_
                  rw [hfail hst]
                  simp only [go_sem, Int.reduceEq, Int.reduceLT, Nat.reduceEqDiff, Nat.reduceAdd, Nat.reduceMul, Nat.reduceLT, Nat.reduceLeDiff, Int.reduceToNat]
                  exact leZero
                · have hst : stepT c ln = some c' := by rw [hstep, hvd, if_neg (by decide), hline]; rfl
                  refine vif rfl ⟨(fun ht => by exact absurd ht (by decide)), fun _ => ?_⟩
                  refine vwp_skip ?_
                  simp only [go_sem, Int.reduceEq, Int.reduceLT, Nat.reduceEqDiff, Nat.reduceAdd, Nat.reduceMul, Nat.reduceLT, Nat.reduceLeDiff, Int.reduceToNat]
                  exact ⟨c', hst, by simp⟩
              · have e1 : decide ((W.length : Int) < 2) = true := decide_eq_true (by omega)
                have hst : stepT c ln = none := by rw [hstep, hvd, if_neg (by decide), hline, decide_eq_false hle]; rfl
                refine vwp_seq_k fun Nx hNx => vreg tt_ok hF rfl ?_; simp only [e1, go_sem, Int.reduceEq, Int.reduceLT, Nat.reduceEqDiff, Nat.reduceAdd, Nat.reduceMul, Nat.reduceLT, Nat.reduceLeDiff, Int.reduceToNat]
                refine hNx _ (VWp.keep [2,5,7,19,20,21,66] [2,5,17,500011,500012] ?_); simp only [go_sem, Int.reduceEq, Int.reduceLT, Nat.reduceEqDiff, Nat.reduceAdd, Nat.reduceMul, Nat.reduceLT, Nat.reduceLeDiff, Int.reduceToNat]
                refine vif rfl ⟨fun _ => ?_, (fun hf => by first | exact absurd hf (by decide) | (rw [e1] at hf; exact absurd hf (by decide)))⟩
                refine vwp_seq_k fun Nw hNw => vreg tt_ok hF rfl ?_; simp only [hfw, go_sem, Int.reduceEq, Int.reduceLT, Nat.reduceEqDiff, Nat.reduceAdd, Nat.reduceMul, Nat.reduceLT, Nat.reduceLeDiff, Int.reduceToNat]
                refine hNw _ (VWp.keep [2,3,4] [2] ?_); simp only [go_sem, Int.reduceEq, Int.reduceLT, Nat.reduceEqDiff, Nat.reduceAdd, Nat.reduceMul, Nat.reduceLT, Nat.reduceLeDiff, Int.reduceToNat]
                refine vwp_ret ?_
                rw [hfail hst]
                simp only [go_sem, Int.reduceEq, Int.reduceLT, Nat.reduceEqDiff, Nat.reduceAdd, Nat.reduceMul, Nat.reduceLT, Nat.reduceLeDiff, Int.reduceToNat]
                exact leZero
            · have n1 := hw
              clear hw
              by_cases hw : w0 = kPart
              · have hfi : findM staM w0 = some (.agg [.int .i64 3, .fn (.func 67) []]) := by rw [hfi0, if_neg n1, if_pos hw]
                have hline : lineT c W = if decide (3 ≤ W.length) && (lpartT c W).2 then some (lpartT c W).1 else none := by unfold lineT; rw [hhead, if_neg n1, if_pos hw]
                refine vwp_seq_k fun Nu hNu => vreg tt_ok hF rfl ?_; simp only [hg0, hfi, go_sem, Int.reduceEq, Int.reduceLT, Nat.reduceEqDiff, Nat.reduceAdd, Nat.reduceMul, Nat.reduceLT, Nat.reduceLeDiff, Int.reduceToNat]
                refine ⟨by omega, ?_⟩
                refine hNu _ (VWp.keep [2,5,6,7,9,11,12,19,20,21] [2,5,9,11,17,500011,500012,500021] ?_); simp only [go_sem, Int.reduceEq, Int.reduceLT, Nat.reduceEqDiff, Nat.reduceAdd, Nat.reduceMul, Nat.reduceLT, Nat.reduceLeDiff, Int.reduceToNat]
                by_cases hle : 3 ≤ W.length
                · have e1 : decide ((W.length : Int) < 3) = false := decide_eq_false (by omega)
                  rw [decide_eq_true hle, Bool.true_and] at hline
                  have hdo := doPart_B c W hle hww hwlen hinv.p
                  unfold cfgO at hdo
                  obtain ⟨Z, hZ⟩ : ∃ Z, lpartT c W = Z := ⟨_, rfl⟩
                  rw [hZ] at hdo hline
                  obtain ⟨c', b⟩ := Z
                  rw [List.length_map, List.length_map, List.length_map, List.length_map] at hdo
                  refine vwp_seq_k fun Nx hNx => vreg tt_ok hF rfl ?_; simp only [e1, go_sem, Int.reduceEq, Int.reduceLT, Nat.reduceEqDiff, Nat.reduceAdd, Nat.reduceMul, Nat.reduceLT, Nat.reduceLeDiff, Int.reduceToNat]
                  refine .inr (bxo [(1000000, 5), (1000011, 500011), (1000002, 500012)] rfl ?_)
                  simp only [go_sem, Int.reduceEq, Int.reduceLT, Nat.reduceEqDiff, Nat.reduceAdd, Nat.reduceMul, Nat.reduceLT, Nat.reduceLeDiff, Int.reduceToNat]
                  refine ⟨_, _, hdo, ?_⟩
                  try simp only [go_sem, Int.reduceEq, Int.reduceLT, Nat.reduceEqDiff, Nat.reduceAdd, Nat.reduceMul, Nat.reduceLT, Nat.reduceLeDiff, Int.reduceToNat]
                  refine hNx _ (VWp.keep [2,5,6,7,19,20,21,66] [2,5,17,500011,500012] ?_); simp only [go_sem, Int.reduceEq, Int.reduceLT, Nat.reduceEqDiff, Nat.reduceAdd, Nat.reduceMul, Nat.reduceLT, Nat.reduceLeDiff, Int.reduceToNat]
                  rcases b with _ | _
                  · have hst : stepT c ln = none := by rw [hstep, hvd, if_neg (by decide), hline]; rfl
                    refine vif rfl ⟨fun _ => ?_, (fun hf => by exact absurd hf (by decide))⟩
                    refine vwp_seq_k fun Nw hNw => vreg tt_ok hF rfl ?_; simp only [hfw, go_sem, Int.reduceEq, Int.reduceLT, Nat.reduceEqDiff, Nat.reduceAdd, Nat.reduceMul, Nat.reduceLT, Nat.reduceLeDiff, Int.reduceToNat]
                    refine hNw _ (VWp.keep [2,3,4] [2] ?_); simp only [go_sem, Int.reduceEq, Int.reduceLT, Nat.reduceEqDiff, Nat.reduceAdd, Nat.reduceMul, Nat.reduceLT, Nat.reduceLeDiff, Int.reduceToNat]
                    refine vwp_ret ?_
                    rw [hfail hst]
                    simp only [go_sem, Int.reduceEq, Int.reduceLT, Nat.reduceEqDiff, Nat.reduceAdd, Nat.reduceMul, Nat.reduceLT, Nat.reduceLeDiff, Int.reduceToNat]
                    exact leZero
                  · have hst : stepT c ln = some c' := by rw [hstep, hvd, if_neg (by decide), hline]; rfl
                    refine vif rfl ⟨(fun ht => by exact absurd ht (by decide)), fun _ => ?_⟩
                    refine vwp_skip ?_
                    simp only [go_sem, Int.reduceEq, Int.reduceLT, Nat.reduceEqDiff, Nat.reduceAdd, Nat.reduceMul, Nat.reduceLT, Nat.reduceLeDiff, Int.reduceToNat]
                    exact ⟨c', hst, by simp⟩
                · have e1 : decide ((W.length : Int) < 3) = true := decide_eq_true (by omega)
                  have hst : stepT c ln = none := by rw [hstep, hvd, if_neg (by decide), hline, decide_eq_false hle]; rfl
                  refine vwp_seq_k fun Nx hNx => vreg tt_ok hF rfl ?_; simp only [e1, go_sem, Int.reduceEq, Int.reduceLT, Nat.reduceEqDiff, Nat.reduceAdd, Nat.reduceMul, Nat.reduceLT, Nat.reduceLeDiff, Int.reduceToNat]
                  refine hNx _ (VWp.keep [2,5,7,19,20,21,66] [2,5,17,500011,500012] ?_); simp only [go_sem, Int.reduceEq, Int.reduceLT, Nat.reduceEqDiff, Nat.reduceAdd, Nat.reduceMul, Nat.reduceLT, Nat.reduceLeDiff, Int.reduceToNat]
                  refine vif rfl ⟨fun _ => ?_, (fun hf => by first | exact absurd hf (by decide) | (rw [e1] at hf; exact absurd hf (by decide)))⟩
                  refine vwp_seq_k fun Nw hNw => vreg tt_ok hF rfl ?_; simp only [hfw, go_sem, Int.reduceEq, Int.reduceLT, Nat.reduceEqDiff, Nat.reduceAdd, Nat.reduceMul, Nat.reduceLT, Nat.reduceLeDiff, Int.reduceToNat]
                  refine hNw _ (VWp.keep [2,3,4] [2] ?_); simp only [go_sem, Int.reduceEq, Int.reduceLT, Nat.reduceEqDiff, Nat.reduceAdd, Nat.reduceMul, Nat.reduceLT, Nat.reduceLeDiff, Int.reduceToNat]
                  refine vwp_ret ?_
                  rw [hfail hst]
                  simp only [go_sem, Int.reduceEq, Int.reduceLT, Nat.reduceEqDiff, Nat.reduceAdd, Nat.reduceMul, Nat.reduceLT, Nat.reduceLeDiff, Int.reduceToNat]
                  exact leZero
              · have n2 := hw
                clear hw
                by_cases hw : w0 = kUnit
                · have hfi : findM staM w0 = some (.agg [.int .i64 3, .fn (.func 68) []]) := by rw [hfi0, if_neg n1, if_neg n2, if_pos hw]
                  have hline : lineT c W = if decide (3 ≤ W.length) && (lunitT c W).2 then some (lunitT c W).1 else none := by unfold lineT; rw [hhead, if_neg n1, if_neg n2, if_pos hw]
                  refine vwp_seq_k fun Nu hNu => vreg tt_ok hF rfl ?_; simp only [hg0, hfi, go_sem, Int.reduceEq, Int.reduceLT, Nat.reduceEqDiff, Nat.reduceAdd, Nat.reduceMul, Nat.reduceLT, Nat.reduceLeDiff, Int.reduceToNat]
                  refine ⟨by omega, ?_⟩
                  refine hNu _ (VWp.keep [2,5,6,7,9,11,12,19,20,21] [2,5,9,11,17,500011,500012,500021] ?_); simp only [go_sem, Int.reduceEq, Int.reduceLT, Nat.reduceEqDiff, Nat.reduceAdd, Nat.reduceMul, Nat.reduceLT, Nat.reduceLeDiff, Int.reduceToNat]
                  by_cases hle : 3 ≤ W.length
                  · have e1 : decide ((W.length : Int) < 3) = false := decide_eq_false (by omega)
                    rw [decide_eq_true hle, Bool.true_and] at hline
                    have hdo := doUnit_B c W hle hww hwlen hinv.n hinv.s (fun x hx => by have := hinv.b x hx; omega)
                    unfold cfgO at hdo
                    obtain ⟨Z, hZ⟩ : ∃ Z, lunitT c W = Z := ⟨_, rfl⟩
                    rw [hZ] at hdo hline
                    obtain ⟨c', b⟩ := Z
                    rw [List.length_map, List.length_map, List.length_map, List.length_map] at hdo
                    refine vwp_seq_k fun Nx hNx => vreg tt_ok hF rfl ?_; simp only [e1, go_sem, Int.reduceEq, Int.reduceLT, Nat.reduceEqDiff, Nat.reduceAdd, Nat.reduceMul, Nat.reduceLT, Nat.reduceLeDiff, Int.reduceToNat]
                    refine .inr (bxo [(1000000, 5), (1000011, 500011), (1000002, 500012)] rfl ?_)
                    simp only [go_sem, Int.reduceEq, Int.reduceLT, Nat.reduceEqDiff, Nat.reduceAdd, Nat.reduceMul, Nat.reduceLT, Nat.reduceLeDiff, Int.reduceToNat]
                    refine ⟨_, _, hdo, ?_⟩
                    try simp only [go_sem, Int.reduceEq, Int.reduceLT, Nat.reduceEqDiff, Nat.reduceAdd, Nat.reduceMul, Nat.reduceLT, Nat.reduceLeDiff, Int.reduceToNat]
                    refine hNx _ (VWp.keep [2,5,6,7,19,20,21,66] [2,5,17,500011,500012] ?_); simp only [go_sem, Int.reduceEq, Int.reduceLT, Nat.reduceEqDiff, Nat.reduceAdd, Nat.reduceMul, Nat.reduceLT, Nat.reduceLeDiff, Int.reduceToNat]
                    rcases b with _ | _
                    · have hst : stepT c ln = none := by rw [hstep, hvd, if_neg (by decide), hline]; rfl
                      refine vif rfl ⟨fun _ => ?_, (fun hf => by exact absurd hf (by decide))⟩
                      refine vwp_seq_k fun Nw hNw => vreg tt_ok hF rfl ?_; simp only [hfw, go_sem, Int.reduceEq, Int.reduceLT, Nat.reduceEqDiff, Nat.reduceAdd, Nat.reduceMul, Nat.reduceLT, Nat.reduceLeDiff, Int.reduceToNat]
                      refine hNw _ (VWp.keep [2,3,4] [2] ?_); simp only [go_sem, Int.reduceEq, Int.reduceLT, Nat.reduceEqDiff, Nat.reduceAdd, Nat.reduceMul, Nat.reduceLT, Nat.reduceLeDiff, Int.reduceToNat]
                      refine vwp_ret ?_
                      rw [hfail hst]
                      simp only [go_sem, Int.reduceEq, Int.reduceLT, Nat.reduceEqDiff, Nat.reduceAdd, Nat.reduceMul, Nat.reduceLT, Nat.reduceLeDiff, Int.reduceToNat]
                      exact leZero
                    · have hst : stepT c ln = some c' := by rw [hstep, hvd, if_neg (by decide), hline]; rfl
                      refine vif rfl ⟨(fun ht => by exact absurd ht (by decide)), fun _ => ?_⟩
                      refine vwp_skip ?_
                      simp only [go_sem, Int.reduceEq, Int.reduceLT, Nat.reduceEqDiff, Nat.reduceAdd, Nat.reduceMul, Nat.reduceLT, Nat.reduceLeDiff, Int.reduceToNat]
                      exact ⟨c', hst, by simp⟩
                  · have e1 : decide ((W.length : Int) < 3) = true := decide_eq_true (by omega)
                    have hst : stepT c ln = none := by rw [hstep, hvd, if_neg (by decide), hline, decide_eq_false hle]; rfl
                    refine vwp_seq_k fun Nx hNx => vreg tt_ok hF rfl ?_; simp only [e1, go_sem, Int.reduceEq, Int.reduceLT, Nat.reduceEqDiff, Nat.reduceAdd, Nat.reduceMul, Nat.reduceLT, Nat.reduceLeDiff, Int.reduceToNat]
                    refine hNx _ (VWp.keep [2,5,7,19,20,21,66] [2,5,17,500011,500012] ?_); simp only [go_sem, Int.reduceEq, Int.reduceLT, Nat.reduceEqDiff, Nat.reduceAdd, Nat.reduceMul, Nat.reduceLT, Nat.reduceLeDiff, Int.reduceToNat]
                    refine vif rfl ⟨fun _ => ?_, (fun hf => by first | exact absurd hf (by decide) | (rw [e1] at hf; exact absurd hf (by decide)))⟩
                    refine vwp_seq_k fun Nw hNw => vreg tt_ok hF rfl ?_; simp only [hfw, go_sem, Int.reduceEq, Int.reduceLT, Nat.reduceEqDiff, Nat.reduceAdd, Nat.reduceMul, Nat.reduceLT, Nat.reduceLeDiff, Int.reduceToNat]
                    refine hNw _ (VWp.keep [2,3,4] [2] ?_); simp only [go_sem, Int.reduceEq, Int.reduceLT, Nat.reduceEqDiff, Nat.reduceAdd, Nat.reduceMul, Nat.reduceLT, Nat.reduceLeDiff, Int.reduceToNat]
                    refine vwp_ret ?_
                    rw [hfail hst]
                    simp only [go_sem, Int.reduceEq, Int.reduceLT, Nat.reduceEqDiff, Nat.reduceAdd, Nat.reduceMul, Nat.reduceLT, Nat.reduceLeDiff, Int.reduceToNat]
                    exact leZero
                · have hfi : findM staM w0 = none := by rw [hfi0, if_neg n1, if_neg n2, if_neg hw]
                  have hst : stepT c ln = none := by rw [hstep, hvd, if_neg (by decide)]; unfold lineT; rw [hhead, if_neg n1, if_neg n2, if_neg hw]
                  refine vwp_seq_k fun Nu hNu => vreg tt_ok hF rfl ?_; simp only [hg0, hfi, go_sem, Int.reduceEq, Int.reduceLT, Nat.reduceEqDiff, Nat.reduceAdd, Nat.reduceMul, Nat.reduceLT, Nat.reduceLeDiff, Int.reduceToNat]
                  refine ⟨by omega, ?_⟩
                  refine hNu _ (VWp.keepR [2,5,6,7,9,11,12,19,20,21] [2,5,9,11,17,500011,500012,500021] tt_ok hF rfl fun Nx hNx => ?_); simp only [go_sem, Int.reduceEq, Int.reduceLT, Nat.reduceEqDiff, Nat.reduceAdd, Nat.reduceMul, Nat.reduceLT, Nat.reduceLeDiff, Int.reduceToNat]
                  refine hNx _ (VWp.keep [2,5,7,19,20,21,66] [2,5,17,500011,500012] ?_); simp only [go_sem, Int.reduceEq, Int.reduceLT, Nat.reduceEqDiff, Nat.reduceAdd, Nat.reduceMul, Nat.reduceLT, Nat.reduceLeDiff, Int.reduceToNat]
                  refine vif rfl ⟨fun _ => ?_, (fun hf => by exact absurd hf (by decide))⟩
                  refine vwp_seq_k fun Nw hNw => vreg tt_ok hF rfl ?_; simp only [hfw, go_sem, Int.reduceEq, Int.reduceLT, Nat.reduceEqDiff, Nat.reduceAdd, Nat.reduceMul, Nat.reduceLT, Nat.reduceLeDiff, Int.reduceToNat]
                  refine hNw _ (VWp.keep [2,3,4] [2] ?_); simp only [go_sem, Int.reduceEq, Int.reduceLT, Nat.reduceEqDiff, Nat.reduceAdd, Nat.reduceMul, Nat.reduceLT, Nat.reduceLeDiff, Int.reduceToNat]
                  refine vwp_ret ?_
                  rw [hfail hst]
                  simp only [go_sem, Int.reduceEq, Int.reduceLT, Nat.reduceEqDiff, Nat.reduceAdd, Nat.reduceMul, Nat.reduceLT, Nat.reduceLeDiff, Int.reduceToNat]
                  exact leZero
          · rw [hv] at hvd
            refine vwp_seq_k fun Nr hNr => vreg tt_ok hF rfl ?_; simp only [e0, hg0, hv, List.length_map, go_sem, Int.reduceEq, Int.reduceLT, Nat.reduceEqDiff, Nat.reduceAdd, Nat.reduceMul, Nat.reduceLT, Nat.reduceLeDiff, Int.reduceToNat]
            refine ⟨by omega, by omega, ?_⟩
            try simp only [hv, go_sem, Int.reduceEq, Int.reduceLT, Nat.reduceEqDiff, Nat.reduceAdd, Nat.reduceMul, Nat.reduceLT, Nat.reduceLeDiff, Int.reduceToNat]
            refine hNr _ (VWp.keep [2,5,6,7,9,19,20,21,42] [2,5,9,17,500011,500012,500021] ?_); simp only [go_sem, Int.reduceEq, Int.reduceLT, Nat.reduceEqDiff, Nat.reduceAdd, Nat.reduceMul, Nat.reduceLT, Nat.reduceLeDiff, Int.reduceToNat]
            refine vif rfl ⟨fun _ => ?_, (fun hf => by first | exact absurd hf (by decide) | (rw [hv] at hf; exact absurd hf (by decide)))⟩
            refine vwp_exit ?_
            simp only [go_sem, Int.reduceEq, Int.reduceLT, Nat.reduceEqDiff, Nat.reduceAdd, Nat.reduceMul, Nat.reduceLT, Nat.reduceLeDiff, Int.reduceToNat]
            exact ⟨c, by rw [hstep, hvd]; rfl, by simp⟩
      · intro c' hc'
        have hinv' := inv_step hinv hc'
        refine vreg tt_ok hF rfl ?_; simp only [go_sem, Int.reduceEq, Int.reduceLT, Nat.reduceEqDiff, Nat.reduceAdd, Nat.reduceMul, Nat.reduceLT, Nat.reduceLeDiff, Int.reduceToNat]
        rw [wrap_i64 (by omega) (by omega)]
        refine ⟨(k + 1, c'), ⟨by simp only; omega, hinv', ?_⟩, by simp only; omega, by simp⟩
        rw [hgo, goT, hc']
    · have hke : k = L.length := by have := of_decide_eq_false hfa; omega
      rw [hgo, hke, List.drop_length, goT] at hR2
      simp only [if_pos] at hR2
      refine vwp_exit ?_
      simp only [go_sem, Int.reduceEq, Int.reduceLT, Nat.reduceEqDiff, Nat.reduceAdd, Nat.reduceMul, Nat.reduceLT, Nat.reduceLeDiff, Int.reduceToNat]
      refine hNg _ (VWp.keep [2,5] [2,5,500011,500012] ?_); simp only [go_sem, Int.reduceEq, Int.reduceLT, Nat.reduceEqDiff, Nat.reduceAdd, Nat.reduceMul, Nat.reduceLT, Nat.reduceLeDiff, Int.reduceToNat]
      refine vwp_seq_k fun Np hNp => ?_
      have hck := Check_spec c
      unfold cfgC at hck
      by_cases hz : chkE c = 0
      · have ez : decide (chkE c = 0) = true := decide_eq_true hz
        rw [if_pos hz] at hR2
        refine vwp_seq_k fun Nq hNq => vreg tt_ok hF rfl ?_; simp only [go_sem, Int.reduceEq, Int.reduceLT, Nat.reduceEqDiff, Nat.reduceAdd, Nat.reduceMul, Nat.reduceLT, Nat.reduceLeDiff, Int.reduceToNat]
        (first | refine .inr (bxl ?_) | refine .inr ⟨rfl, bxl ?_⟩); simp only [go_sem, Int.reduceEq, Int.reduceLT, Nat.reduceEqDiff, Nat.reduceAdd, Nat.reduceMul, Nat.reduceLT, Nat.reduceLeDiff, Int.reduceToNat]; refine look (hck) rfl ?_; try simp only [go_sem, Int.reduceEq, Int.reduceLT, Nat.reduceEqDiff, Nat.reduceAdd, Nat.reduceMul, Nat.reduceLT, Nat.reduceLeDiff, Int.reduceToNat]
        simp only [ez, go_sem, Int.reduceEq, Int.reduceLT, Nat.reduceEqDiff, Nat.reduceAdd, Nat.reduceMul, Nat.reduceLT, Nat.reduceLeDiff, Int.reduceToNat]
        refine hNq _ (VWp.keep [2,5,73] [2,5,500011,500012] ?_); simp only [go_sem, Int.reduceEq, Int.reduceLT, Nat.reduceEqDiff, Nat.reduceAdd, Nat.reduceMul, Nat.reduceLT, Nat.reduceLeDiff, Int.reduceToNat]
        refine vif rfl ⟨(fun hf => by first | exact absurd hf (by decide) | (rw [ez] at hf; exact absurd hf (by decide))), fun _ => ?_⟩
        refine vwp_skip (hNp _ ?_)
        refine vwp_seq_k fun Ns hNs => vreg tt_ok hF rfl ?_; simp only [go_sem, Int.reduceEq, Int.reduceLT, Nat.reduceEqDiff, Nat.reduceAdd, Nat.reduceMul, Nat.reduceLT, Nat.reduceLeDiff, Int.reduceToNat]
        refine hNs _ (VWp.keep [2,3,4] [2,500011,500012] ?_); simp only [go_sem, Int.reduceEq, Int.reduceLT, Nat.reduceEqDiff, Nat.reduceAdd, Nat.reduceMul, Nat.reduceLT, Nat.reduceLeDiff, Int.reduceToNat]
        refine VWp.calm [2, 3, 4] ?_
        simp only [calmT, go_sem, Int.reduceEq, Int.reduceLT, Nat.reduceEqDiff, Nat.reduceAdd, Nat.reduceMul, Nat.reduceLT, Nat.reduceLeDiff, Int.reduceToNat]
        refine vwp_ret ?_
        rw [← hR2]
        simp only [go_sem, Int.reduceEq, Int.reduceLT, Nat.reduceEqDiff, Nat.reduceAdd, Nat.reduceMul, Nat.reduceLT, Nat.reduceLeDiff, Int.reduceToNat]
        exact LeV.refl _
      · have ez : decide (chkE c = 0) = false := decide_eq_false hz
        rw [if_neg hz] at hR2
        refine vwp_seq_k fun Nq hNq => vreg tt_ok hF rfl ?_; simp only [go_sem, Int.reduceEq, Int.reduceLT, Nat.reduceEqDiff, Nat.reduceAdd, Nat.reduceMul, Nat.reduceLT, Nat.reduceLeDiff, Int.reduceToNat]
        (first | refine .inr (bxl ?_) | refine .inr ⟨rfl, bxl ?_⟩); simp only [go_sem, Int.reduceEq, Int.reduceLT, Nat.reduceEqDiff, Nat.reduceAdd, Nat.reduceMul, Nat.reduceLT, Nat.reduceLeDiff, Int.reduceToNat]; refine look (hck) rfl ?_; try simp only [go_sem, Int.reduceEq, Int.reduceLT, Nat.reduceEqDiff, Nat.reduceAdd, Nat.reduceMul, Nat.reduceLT, Nat.reduceLeDiff, Int.reduceToNat]
        simp only [ez, go_sem, Int.reduceEq, Int.reduceLT, Nat.reduceEqDiff, Nat.reduceAdd, Nat.reduceMul, Nat.reduceLT, Nat.reduceLeDiff, Int.reduceToNat]
        refine hNq _ (VWp.keep [2,5,73] [2,5,500011,500012] ?_); simp only [go_sem, Int.reduceEq, Int.reduceLT, Nat.reduceEqDiff, Nat.reduceAdd, Nat.reduceMul, Nat.reduceLT, Nat.reduceLeDiff, Int.reduceToNat]
        refine vif rfl ⟨fun _ => ?_, (fun hf => by first | exact absurd hf (by decide) | (rw [ez] at hf; exact absurd hf (by decide)))⟩
        refine vwp_seq_k fun Nr hNr => vreg tt_ok hF rfl ?_; simp only [go_sem, Int.reduceEq, Int.reduceLT, Nat.reduceEqDiff, Nat.reduceAdd, Nat.reduceMul, Nat.reduceLT, Nat.reduceLeDiff, Int.reduceToNat]
        refine hNr _ (VWp.keep [2,3,4] [2] ?_); simp only [go_sem, Int.reduceEq, Int.reduceLT, Nat.reduceEqDiff, Nat.reduceAdd, Nat.reduceMul, Nat.reduceLT, Nat.reduceLeDiff, Int.reduceToNat]
        refine vwp_ret ?_
        rw [← hR2]
        simp only [go_sem, Int.reduceEq, Int.reduceLT, Nat.reduceEqDiff, Nat.reduceAdd, Nat.reduceMul, Nat.reduceLT, Nat.reduceLeDiff, Int.reduceToNat]
        exact leZero
end Go.Proofs.YtedbbinlcdgkoaaGreatDoor
