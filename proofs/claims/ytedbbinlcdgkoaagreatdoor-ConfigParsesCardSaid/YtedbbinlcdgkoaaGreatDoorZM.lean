import Derived.Outline
import Derived.Test.YtedbbinlcdgkoaaGreatDoorZJ
import Derived.Test.YtedbbinlcdgkoaaGreatDoorZB

/- Layer 19: the reference's Parse. -/
namespace Go.Proofs.YtedbbinlcdgkoaaGreatDoor
open Go.RowKit Go.Lib
-- FUSE
-- LESS
set_option linter.unusedVariables false
set_option linter.unusedSimpArgs false
theorem unit_ser {u : UniT} (h : unitT u = true) : u.ser.length ≤ 6 := by
  unfold unitT at h
  rw [Bool.and_eq_true] at h
  have h2 := h.2
  have hp : plainT u.ser 6 = true → u.ser.length ≤ 6 := fun q => by
    unfold plainT at q
    simp only [Bool.and_eq_true, decide_eq_true_eq] at q
    omega
  split at h2
  · rw [Bool.and_eq_true] at h2
    have := of_decide_eq_true h2.1
    rw [this]; simp
  · split at h2
    · simp only [Bool.and_eq_true] at h2
      exact hp (by first | exact h2.1 | exact h2.1.1)
    · split at h2
      · simp only [Bool.and_eq_true] at h2
        exact hp (by first | exact h2.1 | exact h2.1.1 | exact h2.1.1.1 | exact h2.1.1.1.1 | exact h2.1.1.1.1.1)
      · cases h2
theorem add_ser {c : CfgT} {l : List Bs} (hs : sorT c.us) (h : ∀ x ∈ c.us, x.ser.length ≤ 6) : ∀ x ∈ (addT c l).1.us, x.ser.length ≤ 6 := by
  by_cases c1 : l.headD [] = kStore
  · rw [add_store c1]; unfold storeT; split <;> exact h
  · by_cases c2 : l.headD [] = kPart
    · rw [add_part c2]; unfold lpartT; split <;> exact h
    · by_cases c3 : l.headD [] = kUnit
      · rw [add_unit hs c3]
        split
        · rename_i q
          have hu : unitT (runitT l).1 = true := by
            have h1 := q.1
            unfold runitT at h1 ⊢
            split at h1
            · rename_i q2; rw [if_pos q2]; exact h1
            · cases h1
          intro x hx
          simp only at hx
          rcases List.mem_append.1 hx with m | m
          · exact h x (List.mem_of_mem_take m)
          · rcases List.mem_cons.1 m with rfl | m
            · exact unit_ser hu
            · exact h x (List.mem_of_mem_drop m)
        · exact h
      · rw [add_other c1 c2 c3]; exact h
theorem step_add {c : CfgT} {ln : Bs} (hv : voidT (wordsT ln) = false) : stepT c ln = if (addT c (wordsT ln)).2 = true then some (addT c (wordsT ln)).1 else none := by
  unfold stepT addT
  rw [hv]
  show lineT c (wordsT ln) = _
  cases lineT c (wordsT ln) <;> rfl
set_option maxHeartbeats 16000000 in
set_option maxRecDepth 4000 in
theorem rParse_spec (t : Bs) (ht : t.length ≤ 1000000) : Spec Tryz.prog 34 [.str t] (resC (parseT t)) := by
  obtain ⟨R, hR2⟩ : ∃ R, parseT t = R := ⟨_, rfl⟩
  rw [hR2]
  unfold resC cfgC
  unfold parseT at hR2
  by_cases hlong : 65536 < t.length
  · have e0 : decide ((65536 : Int) < (t.length : Int)) = true := decide_eq_true (by omega)
    have e0' : decide ((t.length : Int) > 65536) = true := decide_eq_true (by omega)
    rw [if_pos hlong] at hR2
    rw [← hR2]
    refine spec_of tt_ok Tryz.func34 rfl (by decide) Tryz.ntmps34 (congrArg Array.toList Tryz.results34) (by simp) (by decide) rfl rfl (fun F hF => ?_)
    refine vwp_seq_k fun Na hNa => vreg tt_ok hF rfl ?_; simp only [go_sem, Int.reduceEq, Int.reduceLT, Nat.reduceEqDiff, Nat.reduceAdd, Nat.reduceMul, Nat.reduceLT, Nat.reduceLeDiff, Int.reduceToNat]
    refine hNa _ (VWp.keep [0,2] [2] ?_); simp only [go_sem, Int.reduceEq, Int.reduceLT, Nat.reduceEqDiff, Nat.reduceAdd, Nat.reduceMul, Nat.reduceLT, Nat.reduceLeDiff, Int.reduceToNat]
    refine vwp_seq_k fun Nb hNb => ?_
    refine vwp_seq_k fun Nc hNc => vreg tt_ok hF rfl ?_; simp only [e0, e0', go_sem, Int.reduceEq, Int.reduceLT, Nat.reduceEqDiff, Nat.reduceAdd, Nat.reduceMul, Nat.reduceLT, Nat.reduceLeDiff, Int.reduceToNat]
    refine hNc _ (VWp.keep [0,2,11] [2] ?_); simp only [go_sem, Int.reduceEq, Int.reduceLT, Nat.reduceEqDiff, Nat.reduceAdd, Nat.reduceMul, Nat.reduceLT, Nat.reduceLeDiff, Int.reduceToNat]
    refine vif rfl ⟨fun ht => ?_, (fun hf => by first | cases hf | exact absurd hf (by decide))⟩
    refine vwp_seq_k fun Nd hNd => vreg tt_ok hF rfl ?_; simp only [go_sem, Int.reduceEq, Int.reduceLT, Nat.reduceEqDiff, Nat.reduceAdd, Nat.reduceMul, Nat.reduceLT, Nat.reduceLeDiff, Int.reduceToNat]
    refine hNd _ (VWp.keep [2,3,4] [2] ?_); simp only [go_sem, Int.reduceEq, Int.reduceLT, Nat.reduceEqDiff, Nat.reduceAdd, Nat.reduceMul, Nat.reduceLT, Nat.reduceLeDiff, Int.reduceToNat]
    refine vwp_ret ?_
    simp only [go_sem, Int.reduceEq, Int.reduceLT, Nat.reduceEqDiff, Nat.reduceAdd, Nat.reduceMul, Nat.reduceLT, Nat.reduceLeDiff, Int.reduceToNat]
    exact leZero
  · have e0 : decide ((65536 : Int) < (t.length : Int)) = false := decide_eq_false (by omega)
    have e0' : decide ((t.length : Int) > 65536) = false := decide_eq_false (by omega)
    rw [if_neg hlong] at hR2
    have hspl := rSplit_spec t 10 ht
    obtain ⟨hp1, hp2⟩ := split_props 10 t
    obtain ⟨L, hL⟩ : ∃ L, splitAtC 10 t = L := ⟨_, rfl⟩
    rw [hL] at hspl hp1 hp2 hR2
    have hspl : Spec Tryz.prog 55 [.str t, .int .u8 10] (.sl 1 (L.map strR)) := hspl
    refine spec_of tt_ok Tryz.func34 rfl (by decide) Tryz.ntmps34 (congrArg Array.toList Tryz.results34) (by simp) (by decide) rfl rfl (fun F hF => ?_)
    refine vwp_seq_k fun Na hNa => vreg tt_ok hF rfl ?_; simp only [go_sem, Int.reduceEq, Int.reduceLT, Nat.reduceEqDiff, Nat.reduceAdd, Nat.reduceMul, Nat.reduceLT, Nat.reduceLeDiff, Int.reduceToNat]
    refine hNa _ (VWp.keep [0,2] [2] ?_); simp only [go_sem, Int.reduceEq, Int.reduceLT, Nat.reduceEqDiff, Nat.reduceAdd, Nat.reduceMul, Nat.reduceLT, Nat.reduceLeDiff, Int.reduceToNat]
    refine vwp_seq_k fun Nb hNb => ?_
    refine vwp_seq_k fun Nc hNc => vreg tt_ok hF rfl ?_; simp only [e0, e0', go_sem, Int.reduceEq, Int.reduceLT, Nat.reduceEqDiff, Nat.reduceAdd, Nat.reduceMul, Nat.reduceLT, Nat.reduceLeDiff, Int.reduceToNat]
    refine hNc _ (VWp.keep [0,2,11] [2] ?_); simp only [go_sem, Int.reduceEq, Int.reduceLT, Nat.reduceEqDiff, Nat.reduceAdd, Nat.reduceMul, Nat.reduceLT, Nat.reduceLeDiff, Int.reduceToNat]
    refine vif rfl ⟨(fun hf => by first | cases hf | exact absurd hf (by decide)), fun ht => ?_⟩
    refine vwp_skip (hNb _ ?_)
    refine vwp_seq_k fun Ne hNe => vreg tt_ok hF rfl ?_; simp only [go_sem, Int.reduceEq, Int.reduceLT, Nat.reduceEqDiff, Nat.reduceAdd, Nat.reduceMul, Nat.reduceLT, Nat.reduceLeDiff, Int.reduceToNat]
    refine hNe _ (VWp.keep [0,2,5] [2,5] ?_); simp only [go_sem, Int.reduceEq, Int.reduceLT, Nat.reduceEqDiff, Nat.reduceAdd, Nat.reduceMul, Nat.reduceLT, Nat.reduceLeDiff, Int.reduceToNat]
    refine VWp.leB 5 39 [.nil, .int .i64 0, .nil] [.sl 5 [], .int .i64 0, .nil] rfl ⟨LeV.nil 5, LeV.refl _, LeV.refl _, trivial⟩ rfl ?_
    try simp only [go_sem, Int.reduceEq, Int.reduceLT, Nat.reduceEqDiff, Nat.reduceAdd, Nat.reduceMul, Nat.reduceLT, Nat.reduceLeDiff, Int.reduceToNat]
    refine VWp.adoptB 500012 2 72 (o := 5) (i := 2) rfl rfl rfl (by decide) ?_
    refine VWp.keep [0,2,5] [2,5,500012] ?_; simp only [go_sem, Int.reduceEq, Int.reduceLT, Nat.reduceEqDiff, Nat.reduceAdd, Nat.reduceMul, Nat.reduceLT, Nat.reduceLeDiff, Int.reduceToNat]
    refine vwp_seq_k fun Nf hNf => vreg tt_ok hF rfl ?_; simp only [go_sem, Int.reduceEq, Int.reduceLT, Nat.reduceEqDiff, Nat.reduceAdd, Nat.reduceMul, Nat.reduceLT, Nat.reduceLeDiff, Int.reduceToNat]
    refine .inl ⟨_, hspl, ?_⟩; try simp only [go_sem, Int.reduceEq, Int.reduceLT, Nat.reduceEqDiff, Nat.reduceAdd, Nat.reduceMul, Nat.reduceLT, Nat.reduceLeDiff, Int.reduceToNat]
    refine hNf _ (VWp.keep [2,5,6] [2,5,500012] ?_); simp only [go_sem, Int.reduceEq, Int.reduceLT, Nat.reduceEqDiff, Nat.reduceAdd, Nat.reduceMul, Nat.reduceLT, Nat.reduceLeDiff, Int.reduceToNat]
    refine vwp_seq_k fun Ng hNg => ?_
    refine vwp_seq_k fun Nh hNh => vreg tt_ok hF rfl ?_; simp only [go_sem, Int.reduceEq, Int.reduceLT, Nat.reduceEqDiff, Nat.reduceAdd, Nat.reduceMul, Nat.reduceLT, Nat.reduceLeDiff, Int.reduceToNat]
    refine hNh _ (VWp.keep [2,5,6,7] [2,5,500012] ?_); simp only [go_sem, Int.reduceEq, Int.reduceLT, Nat.reduceEqDiff, Nat.reduceAdd, Nat.reduceMul, Nat.reduceLT, Nat.reduceLeDiff, Int.reduceToNat]
    refine vwp_block ?_
    refine vloop (fun z : Nat × CfgT => [(2, .ptr 2 0), (5, .ptr 5 0), (6, .sl 1 (L.map strR)), (7, .int .i64 (z.1 : Int))]) (fun z => [(2, .box 39 [.nil, .int .i64 0, .nil]), (5, .box 39 [.sl 5 (z.2.us.map uniC), .int .i64 z.2.store, .own 500012 (z.2.ps.map parC).length]), (500012, .arr 2 72 (z.2.ps.map parC))])
      (fun z => z.1 ≤ L.length ∧ InvC z.2 ∧ (∀ x ∈ z.2.us, x.ser.length ≤ 6) ∧ goT zeroC L 0 = goT z.2 (L.drop z.1) z.1) (fun z => L.length - z.1) (0, zeroC) ⟨Nat.zero_le _, inv_zero, by simp [zeroC], rfl⟩ (by simp only [zeroC, List.map_nil, List.length_nil, go_sem, Int.reduceEq, Int.reduceLT, Nat.reduceEqDiff, Nat.reduceAdd, Nat.reduceMul, Nat.reduceLT, Nat.reduceLeDiff, Int.reduceToNat]; try rfl) ?_
    rintro ⟨k, c⟩ ⟨hk, hinv, hser, hgo⟩
    simp only at hk hinv hser hgo
    refine vwp_seq_k fun Ni hNi => ?_
    refine vwp_seq_k fun Nj hNj => vreg tt_ok hF rfl ?_; simp only [go_sem, Int.reduceEq, Int.reduceLT, Nat.reduceEqDiff, Nat.reduceAdd, Nat.reduceMul, Nat.reduceLT, Nat.reduceLeDiff, Int.reduceToNat]
    try simp only [List.length_map]
    refine hNj _ (VWp.keep [2,5,6,7,19] [2,5,500012] ?_); simp only [go_sem, Int.reduceEq, Int.reduceLT, Nat.reduceEqDiff, Nat.reduceAdd, Nat.reduceMul, Nat.reduceLT, Nat.reduceLeDiff, Int.reduceToNat]
    refine vif rfl ⟨fun htr => ?_, fun hfa => ?_⟩
    · have hlt : k < L.length := by have := of_decide_eq_true htr; omega
      have hget := str_row hlt
      obtain ⟨ln, hln⟩ : ∃ ln, L[k] = ln := ⟨_, rfl⟩
      rw [hln] at hget
      have hlnl : ln.length ≤ 65536 := by have := hp1 L[k] (List.getElem_mem hlt); rw [hln] at this; omega
      have hdrop : L.drop k = ln :: L.drop (k + 1) := by rw [List.drop_eq_getElem_cons hlt, hln]
      rw [hdrop] at hgo
      obtain ⟨hw1, hw2⟩ := words_props ln
      have hwo := rWords_spec ln (by omega)
      have hsa := step_add (c := c) (ln := ln)
      have hst0 : voidT (wordsT ln) = true → stepT c ln = some c := fun q => by unfold stepT; rw [q]; rfl
      obtain ⟨ws, hws⟩ : ∃ ws, wordsT ln = ws := ⟨_, rfl⟩
      rw [hws] at hw1 hw2 hwo hsa hst0
      have hfw : IntKind.i64.wrap ((k : Int) + 1) = ((k + 1 : Nat) : Int) := by rw [wrap_i64 (by omega) (by omega)]; omega
      refine vwp_skip (hNi _ ?_)
      refine vmeet (fun c' : CfgT => [(2, .ptr 2 0), (5, .ptr 5 0), (6, .sl 1 (L.map strR)), (7, .int .i64 (k : Int))]) (fun c' => [(2, .box 39 [.nil, .int .i64 0, .nil]), (5, .box 39 [.sl 5 (c'.us.map uniC), .int .i64 c'.store, .own 500012 (c'.ps.map parC).length]), (500012, .arr 2 72 (c'.ps.map parC))]) (fun c' => stepT c ln = some c' ∧ ∀ x ∈ c'.us, x.ser.length ≤ 6) ?_ ?_
      · refine vwp_block ?_
        refine vwp_seq_k fun Nl hNl => vreg tt_ok hF rfl ?_; simp only [hget, List.length_map, Int.toNat_natCast, go_sem, Int.reduceEq, Int.reduceLT, Nat.reduceEqDiff, Nat.reduceAdd, Nat.reduceMul, Nat.reduceLT, Nat.reduceLeDiff, Int.reduceToNat]
        refine ⟨⟨by omega, by omega⟩, ?_⟩
        refine .inl ⟨_, hwo, ?_⟩; try simp only [go_sem, Int.reduceEq, Int.reduceLT, Nat.reduceEqDiff, Nat.reduceAdd, Nat.reduceMul, Nat.reduceLT, Nat.reduceLeDiff, Int.reduceToNat]
        refine hNl _ (VWp.keep [2,5,6,7,8] [2,5,500012] ?_); simp only [go_sem, Int.reduceEq, Int.reduceLT, Nat.reduceEqDiff, Nat.reduceAdd, Nat.reduceMul, Nat.reduceLT, Nat.reduceLeDiff, Int.reduceToNat]
        refine vwp_seq_k fun Nm hNm => ?_
        cases ws with
        | nil =>
          refine vwp_seq_k fun Nn hNn => vreg tt_ok hF rfl ?_; simp only [List.map_nil, List.length_nil, go_sem, Int.reduceEq, Int.reduceLT, Nat.reduceEqDiff, Nat.reduceAdd, Nat.reduceMul, Nat.reduceLT, Nat.reduceLeDiff, Int.reduceToNat]
          refine hNn _ (VWp.keep [2,5,6,7,8,36] [2,5,500012] ?_); simp only [go_sem, Int.reduceEq, Int.reduceLT, Nat.reduceEqDiff, Nat.reduceAdd, Nat.reduceMul, Nat.reduceLT, Nat.reduceLeDiff, Int.reduceToNat]
          refine vif rfl ⟨fun _ => ?_, (fun hf => by first | cases hf | exact absurd hf (by decide))⟩
          refine vwp_exit ?_
          simp only [go_sem, Int.reduceEq, Int.reduceLT, Nat.reduceEqDiff, Nat.reduceAdd, Nat.reduceMul, Nat.reduceLT, Nat.reduceLeDiff, Int.reduceToNat]
          exact ⟨c, ⟨hst0 rfl, hser⟩, by simp⟩
        | cons w0 wr =>
          obtain ⟨hwn, hwl⟩ := hw1 w0 List.mem_cons_self
          have hwl0 : 0 < w0.length := by cases w0 with | nil => exact absurd rfl hwn | cons => simp
          have e0 : decide (((w0 :: wr).length : Int) = 0) = false := decide_eq_false (by simp only [List.length_cons]; omega)
          have hg0 : ((w0 :: wr).map strR).getD 0 [] = [.str w0] := rfl
          have hh : w0.headD 0 = w0.getD 0 0 := by cases w0 <;> rfl
          have hvd : voidT (w0 :: wr) = decide ((((w0.getD 0 0).toNat : Nat) : Int) = 42) := by
            unfold voidT
            rw [decide_eq_false (by simp), Bool.false_or, List.headD_cons, hh]
            apply decide_eq_decide.2
            constructor
            · intro q; rw [q]; rfl
            · intro q; exact UInt8.toNat_inj.1 (by have : (w0.getD 0 0).toNat = 42 := by omega
                                                   rw [this]; rfl)
          have hwlen : (w0 :: wr).length ≤ 1000000 := by omega
          obtain ⟨W, hW⟩ : ∃ W, w0 :: wr = W := ⟨_, rfl⟩
          have hWl : 1 ≤ W.length := by rw [← hW]; simp
          have hww : ∀ x ∈ W, x.length ≤ 1000000 := fun x hx => by rw [← hW] at hx; have := (hw1 x hx).2; omega
          rw [hW] at e0 hg0 hvd hwlen hsa hst0 ⊢
          rcases hv : decide ((((w0.getD 0 0).toNat : Nat) : Int) = 42) with _ | _
          · rw [hv] at hvd
            have hsa := hsa hvd
            refine vwp_seq_k fun Nn hNn => vreg tt_ok hF rfl ?_; simp only [e0, hg0, hv, List.length_map, go_sem, Int.reduceEq, Int.reduceLT, Nat.reduceEqDiff, Nat.reduceAdd, Nat.reduceMul, Nat.reduceLT, Nat.reduceLeDiff, Int.reduceToNat]
            refine ⟨by omega, by omega, ?_⟩
            refine hNn _ (VWp.keep [2,5,6,7,8,36] [2,5,500012] ?_); simp only [go_sem, Int.reduceEq, Int.reduceLT, Nat.reduceEqDiff, Nat.reduceAdd, Nat.reduceMul, Nat.reduceLT, Nat.reduceLeDiff, Int.reduceToNat]
            refine vif rfl ⟨(fun hf => by first | cases hf | exact absurd hf (by decide)), fun _ => ?_⟩
            refine vwp_skip (hNm _ ?_)
            have hdo := add_B c W hWl hww hwlen hinv
            have hse2 := add_ser (l := W) hinv.s hser
            obtain ⟨⟨c2, b⟩, hZ⟩ : ∃ Z, addT c W = Z := ⟨_, rfl⟩
            rw [hZ] at hdo hsa hse2
            unfold refO at hdo
            rw [List.length_map, List.length_map] at hdo
            simp only at hdo hsa hse2
            have hfail : stepT c ln = none → R = (zeroC, ((k + 1 : Nat) : Int), 190) := fun q => by
              rw [← hR2, hgo, goT, q]
              simp
            refine vwp_seq_k fun No hNo => vreg tt_ok hF rfl ?_; simp only [go_sem, Int.reduceEq, Int.reduceLT, Nat.reduceEqDiff, Nat.reduceAdd, Nat.reduceMul, Nat.reduceLT, Nat.reduceLeDiff, Int.reduceToNat]
            refine .inr (bxo [(1000000, 5), (1000002, 500012)] rfl ?_); simp only [go_sem, Int.reduceEq, Int.reduceLT, Nat.reduceEqDiff, Nat.reduceAdd, Nat.reduceMul, Nat.reduceLT, Nat.reduceLeDiff, Int.reduceToNat]; refine ⟨_, _, hdo, ?_⟩; try simp only [go_sem, Int.reduceEq, Int.reduceLT, Nat.reduceEqDiff, Nat.reduceAdd, Nat.reduceMul, Nat.reduceLT, Nat.reduceLeDiff, Int.reduceToNat]
            refine hNo _ (VWp.keep [2,5,6,7,39] [2,5,500012] ?_); simp only [go_sem, Int.reduceEq, Int.reduceLT, Nat.reduceEqDiff, Nat.reduceAdd, Nat.reduceMul, Nat.reduceLT, Nat.reduceLeDiff, Int.reduceToNat]
            rcases b with _ | _
            · have hst : stepT c ln = none := by rw [hsa, if_neg (by decide)]
              refine vif rfl ⟨fun _ => ?_, (fun hf => by first | cases hf | exact absurd hf (by decide))⟩
              refine vwp_seq_k fun Np hNp => vreg tt_ok hF rfl ?_; simp only [hfw, go_sem, Int.reduceEq, Int.reduceLT, Nat.reduceEqDiff, Nat.reduceAdd, Nat.reduceMul, Nat.reduceLT, Nat.reduceLeDiff, Int.reduceToNat]
              refine hNp _ (VWp.keep [2,3,4] [2] ?_); simp only [go_sem, Int.reduceEq, Int.reduceLT, Nat.reduceEqDiff, Nat.reduceAdd, Nat.reduceMul, Nat.reduceLT, Nat.reduceLeDiff, Int.reduceToNat]
              refine vwp_ret ?_
              rw [hfail hst]
              simp only [go_sem, Int.reduceEq, Int.reduceLT, Nat.reduceEqDiff, Nat.reduceAdd, Nat.reduceMul, Nat.reduceLT, Nat.reduceLeDiff, Int.reduceToNat]
              exact leZero
            · have hst : stepT c ln = some c2 := by rw [hsa, if_pos rfl]
              refine vif rfl ⟨(fun hf => by first | cases hf | exact absurd hf (by decide)), fun _ => ?_⟩
              refine vwp_skip ?_
              simp only [go_sem, Int.reduceEq, Int.reduceLT, Nat.reduceEqDiff, Nat.reduceAdd, Nat.reduceMul, Nat.reduceLT, Nat.reduceLeDiff, Int.reduceToNat]
              exact ⟨c2, ⟨hst, hse2⟩, by simp⟩
          · rw [hv] at hvd
            refine vwp_seq_k fun Nn hNn => vreg tt_ok hF rfl ?_; simp only [e0, hg0, hv, List.length_map, go_sem, Int.reduceEq, Int.reduceLT, Nat.reduceEqDiff, Nat.reduceAdd, Nat.reduceMul, Nat.reduceLT, Nat.reduceLeDiff, Int.reduceToNat]
            refine ⟨by omega, by omega, ?_⟩
            refine hNn _ (VWp.keep [2,5,6,7,8,36] [2,5,500012] ?_); simp only [go_sem, Int.reduceEq, Int.reduceLT, Nat.reduceEqDiff, Nat.reduceAdd, Nat.reduceMul, Nat.reduceLT, Nat.reduceLeDiff, Int.reduceToNat]
            refine vif rfl ⟨fun _ => ?_, (fun hf => by first | cases hf | exact absurd hf (by decide))⟩
            refine vwp_exit ?_
            simp only [go_sem, Int.reduceEq, Int.reduceLT, Nat.reduceEqDiff, Nat.reduceAdd, Nat.reduceMul, Nat.reduceLT, Nat.reduceLeDiff, Int.reduceToNat]
            exact ⟨c, ⟨hst0 hvd, hser⟩, by simp⟩
      rintro c2 ⟨hst, hser2⟩
      rw [goT, hst] at hgo
      have hinv2 := inv_step hinv hst
      refine vreg tt_ok hF rfl ?_; simp only [go_sem, Int.reduceEq, Int.reduceLT, Nat.reduceEqDiff, Nat.reduceAdd, Nat.reduceMul, Nat.reduceLT, Nat.reduceLeDiff, Int.reduceToNat]
      rw [wrap_i64 (by omega) (by omega)]
      exact ⟨(k + 1, c2), ⟨by simp only; omega, hinv2, hser2, hgo⟩, by simp only; omega, by simp⟩
    · have hke : k = L.length := by have := of_decide_eq_false hfa; omega
      rw [hke, List.drop_length, goT] at hgo
      rw [hgo] at hR2
      simp only [if_true] at hR2
      have hck := rCheck_spec c (fun x hx => by have := hser x hx; omega)
      unfold cfgC at hck
      have hce : chkE c = if cfgT c then 0 else 190 := rfl
      refine vwp_exit ?_
      simp only [go_sem, Int.reduceEq, Int.reduceLT, Nat.reduceEqDiff, Nat.reduceAdd, Nat.reduceMul, Nat.reduceLT, Nat.reduceLeDiff, Int.reduceToNat]
      refine hNg _ (VWp.keep [2,5] [2,5,500012] ?_); simp only [go_sem, Int.reduceEq, Int.reduceLT, Nat.reduceEqDiff, Nat.reduceAdd, Nat.reduceMul, Nat.reduceLT, Nat.reduceLeDiff, Int.reduceToNat]
      refine VWp.lookB 5 2 (d := 500012) rfl rfl rfl (by first | rfl | simp) (prvB_no rfl rfl) ?_
      refine VWp.keep [2,5] [2,5] ?_; simp only [go_sem, Int.reduceEq, Int.reduceLT, Nat.reduceEqDiff, Nat.reduceAdd, Nat.reduceMul, Nat.reduceLT, Nat.reduceLeDiff, Int.reduceToNat]
      refine vwp_seq_k fun Nq hNq => ?_
      rcases hcf : cfgT c with _ | _
      · rw [hcf] at hck hce
        have hce : chkE c = 190 := hce
        rw [if_neg (by rw [hce]; decide)] at hR2
        refine vwp_seq_k fun Nr hNr => vreg tt_ok hF rfl ?_; simp only [go_sem, Int.reduceEq, Int.reduceLT, Nat.reduceEqDiff, Nat.reduceAdd, Nat.reduceMul, Nat.reduceLT, Nat.reduceLeDiff, Int.reduceToNat]
        refine .inl ⟨_, hck, ?_⟩; try simp only [go_sem, Int.reduceEq, Int.reduceLT, Nat.reduceEqDiff, Nat.reduceAdd, Nat.reduceMul, Nat.reduceLT, Nat.reduceLeDiff, Int.reduceToNat]
        refine hNr _ (VWp.keep [2,5,45] [2,5] ?_); simp only [go_sem, Int.reduceEq, Int.reduceLT, Nat.reduceEqDiff, Nat.reduceAdd, Nat.reduceMul, Nat.reduceLT, Nat.reduceLeDiff, Int.reduceToNat]
        refine vif rfl ⟨fun _ => ?_, (fun hf => by first | cases hf | exact absurd hf (by decide))⟩
        refine vwp_seq_k fun Ns hNs => vreg tt_ok hF rfl ?_; simp only [go_sem, Int.reduceEq, Int.reduceLT, Nat.reduceEqDiff, Nat.reduceAdd, Nat.reduceMul, Nat.reduceLT, Nat.reduceLeDiff, Int.reduceToNat]
        refine hNs _ (VWp.keep [2,3,4] [2] ?_); simp only [go_sem, Int.reduceEq, Int.reduceLT, Nat.reduceEqDiff, Nat.reduceAdd, Nat.reduceMul, Nat.reduceLT, Nat.reduceLeDiff, Int.reduceToNat]
        refine vwp_ret ?_
        rw [← hR2]
        simp only [go_sem, Int.reduceEq, Int.reduceLT, Nat.reduceEqDiff, Nat.reduceAdd, Nat.reduceMul, Nat.reduceLT, Nat.reduceLeDiff, Int.reduceToNat]
        exact leZero
      · rw [hcf] at hck hce
        have hce : chkE c = 0 := hce
        rw [if_pos hce] at hR2
        refine vwp_seq_k fun Nr hNr => vreg tt_ok hF rfl ?_; simp only [go_sem, Int.reduceEq, Int.reduceLT, Nat.reduceEqDiff, Nat.reduceAdd, Nat.reduceMul, Nat.reduceLT, Nat.reduceLeDiff, Int.reduceToNat]
        refine .inl ⟨_, hck, ?_⟩; try simp only [go_sem, Int.reduceEq, Int.reduceLT, Nat.reduceEqDiff, Nat.reduceAdd, Nat.reduceMul, Nat.reduceLT, Nat.reduceLeDiff, Int.reduceToNat]
        refine hNr _ (VWp.keep [2,5,45] [2,5] ?_); simp only [go_sem, Int.reduceEq, Int.reduceLT, Nat.reduceEqDiff, Nat.reduceAdd, Nat.reduceMul, Nat.reduceLT, Nat.reduceLeDiff, Int.reduceToNat]
        refine vif rfl ⟨(fun hf => by first | cases hf | exact absurd hf (by decide)), fun _ => ?_⟩
        refine vwp_skip (hNq _ ?_)
        refine vwp_seq_k fun Nt hNt => vreg tt_ok hF rfl ?_; simp only [go_sem, Int.reduceEq, Int.reduceLT, Nat.reduceEqDiff, Nat.reduceAdd, Nat.reduceMul, Nat.reduceLT, Nat.reduceLeDiff, Int.reduceToNat]
        refine hNt _ (VWp.keep [2,3,4] [2] ?_); simp only [go_sem, Int.reduceEq, Int.reduceLT, Nat.reduceEqDiff, Nat.reduceAdd, Nat.reduceMul, Nat.reduceLT, Nat.reduceLeDiff, Int.reduceToNat]
        refine vwp_ret ?_
        rw [← hR2]
        simp only [go_sem, Int.reduceEq, Int.reduceLT, Nat.reduceEqDiff, Nat.reduceAdd, Nat.reduceMul, Nat.reduceLT, Nat.reduceLeDiff, Int.reduceToNat]
        first | exact LeV.refl _ | exact LeV.of_eq (by simp)
end Go.Proofs.YtedbbinlcdgkoaaGreatDoor

/- Layer 19: the reference's Same; the law's Ref. -/
namespace Go.Proofs.YtedbbinlcdgkoaaGreatDoor
open Go.RowKit Go.Lib
-- FUSE
-- LESS
set_option linter.unusedVariables false
set_option linter.unusedSimpArgs false
set_option maxHeartbeats 4000000 in
set_option maxRecDepth 4000 in
theorem rSame_same (c : CfgT) (h1 : c.us.length ≤ 1000) (h2 : c.ps.length ≤ 1000) : Spec Tryz.prog 35 [.agg (cfgC c), .agg (cfgC c)] (.bool true) := by
  unfold cfgC
  refine spec_of tt_ok Tryz.func35 rfl (by decide) Tryz.ntmps35 (congrArg Array.toList Tryz.results35) (by simp) (by decide) rfl rfl (fun F hF => ?_)
  refine vwp_seq_k fun Na hNa => vreg tt_ok hF rfl ?_; simp only [go_sem, Int.reduceEq, Int.reduceLT, Nat.reduceEqDiff, Nat.reduceAdd, Nat.reduceMul, Nat.reduceLT, Nat.reduceLeDiff, Int.reduceToNat]   -- R0
  refine hNa _ (VWp.keep [2,3] [2,3] ?_); simp only [go_sem, Int.reduceEq, Int.reduceLT, Nat.reduceEqDiff, Nat.reduceAdd, Nat.reduceMul, Nat.reduceLT, Nat.reduceLeDiff, Int.reduceToNat]
  refine vwp_seq_k fun Nb hNb => ?_
  refine vwp_seq_k fun Nc hNc => vreg tt_ok hF rfl ?_; simp only [go_sem, Int.reduceEq, Int.reduceLT, Nat.reduceEqDiff, Nat.reduceAdd, Nat.reduceMul, Nat.reduceLT, Nat.reduceLeDiff, Int.reduceToNat]   -- R1
  try simp only [decide_true, List.length_map, go_sem, Int.reduceEq, Int.reduceLT, Nat.reduceEqDiff, Nat.reduceAdd, Nat.reduceMul, Nat.reduceLT, Nat.reduceLeDiff, Int.reduceToNat]
  refine hNc _ (VWp.keep [2,3,29] [2,3] ?_); simp only [go_sem, Int.reduceEq, Int.reduceLT, Nat.reduceEqDiff, Nat.reduceAdd, Nat.reduceMul, Nat.reduceLT, Nat.reduceLeDiff, Int.reduceToNat]
  refine vif rfl ⟨(fun hf => by first | cases hf | exact absurd hf (by decide)), fun ht => ?_⟩
  refine vwp_skip (hNb _ ?_)
  refine vwp_seq_k fun Ne hNe => ?_
  refine vwp_seq_k fun Nf hNf => vreg tt_ok hF rfl ?_; simp only [go_sem, Int.reduceEq, Int.reduceLT, Nat.reduceEqDiff, Nat.reduceAdd, Nat.reduceMul, Nat.reduceLT, Nat.reduceLeDiff, Int.reduceToNat]   -- R3
  refine hNf _ (VWp.keep [2,3,5] [2,3] ?_); simp only [go_sem, Int.reduceEq, Int.reduceLT, Nat.reduceEqDiff, Nat.reduceAdd, Nat.reduceMul, Nat.reduceLT, Nat.reduceLeDiff, Int.reduceToNat]
  refine vwp_block ?_
  refine vloop (fun k : Nat => [(2, .ptr 2 0), (3, .ptr 3 0), (5, .int .i64 (k : Int))]) (fun k => [(2, .box 39 [.sl 5 (c.us.map uniC), .int .i64 c.store, .sl 2 (c.ps.map parC)]), (3, .box 39 [.sl 5 (c.us.map uniC), .int .i64 c.store, .sl 2 (c.ps.map parC)])]) (fun k => k ≤ c.ps.length) (fun k => c.ps.length - k) 0 (by omega) (by simp only [go_sem, Int.reduceEq, Int.reduceLT, Nat.reduceEqDiff, Nat.reduceAdd, Nat.reduceMul, Nat.reduceLT, Nat.reduceLeDiff, Int.reduceToNat]; try rfl) ?_
  intro k hk
  refine vwp_seq_k fun Ng hNg => ?_
  refine vwp_seq_k fun Nh hNh => vreg tt_ok hF rfl ?_; simp only [go_sem, Int.reduceEq, Int.reduceLT, Nat.reduceEqDiff, Nat.reduceAdd, Nat.reduceMul, Nat.reduceLT, Nat.reduceLeDiff, Int.reduceToNat]   -- R4
  try simp only [List.length_map]
  refine hNh _ (VWp.keep [2,3,5,34] [2,3] ?_); simp only [go_sem, Int.reduceEq, Int.reduceLT, Nat.reduceEqDiff, Nat.reduceAdd, Nat.reduceMul, Nat.reduceLT, Nat.reduceLeDiff, Int.reduceToNat]
  refine vif rfl ⟨fun ht => ?_, fun hf => ?_⟩
  · have hq : k < c.ps.length := by have := of_decide_eq_true ht; omega
    have hget := par_row hq
    refine vwp_skip (hNg _ ?_)
    refine vwp_seq_k fun Ni hNi => ?_
    refine vwp_block ?_
    refine vwp_seq_k fun Nj hNj => vregd tt_ok mixed hF rfl (by kernel_rfl) (by kernel_rfl) ?_
    simp only [hget, List.length_map, Int.toNat_natCast, decide_true, Bool.and_true, Bool.not_true, go_sem, Int.reduceEq, Int.reduceLT, Nat.reduceEqDiff, Nat.reduceAdd, Nat.reduceMul, Nat.reduceLT, Nat.reduceLeDiff, Int.reduceToNat]
    refine ⟨⟨by omega, by omega⟩, ⟨by omega, by omega⟩, ?_⟩
    refine hNj _ (VWp.keep [2,3,5,47] [2,3] ?_); simp only [go_sem, Int.reduceEq, Int.reduceLT, Nat.reduceEqDiff, Nat.reduceAdd, Nat.reduceMul, Nat.reduceLT, Nat.reduceLeDiff, Int.reduceToNat]
    refine vif rfl ⟨(fun hf => by first | cases hf | exact absurd hf (by decide)), fun ht => ?_⟩
    refine vwp_skip (hNi _ ?_)
    refine vreg tt_ok hF rfl ?_; simp only [go_sem, Int.reduceEq, Int.reduceLT, Nat.reduceEqDiff, Nat.reduceAdd, Nat.reduceMul, Nat.reduceLT, Nat.reduceLeDiff, Int.reduceToNat]   -- R5
    rw [wrap_i64 (by omega) (by omega)]
    exact ⟨k + 1, by omega, by omega, by simp⟩
  · refine vwp_exit ?_
    simp only [go_sem, Int.reduceEq, Int.reduceLT, Nat.reduceEqDiff, Nat.reduceAdd, Nat.reduceMul, Nat.reduceLT, Nat.reduceLeDiff, Int.reduceToNat]
    refine hNe _ (VWp.keep [2,3] [2,3] ?_); simp only [go_sem, Int.reduceEq, Int.reduceLT, Nat.reduceEqDiff, Nat.reduceAdd, Nat.reduceMul, Nat.reduceLT, Nat.reduceLeDiff, Int.reduceToNat]
    refine vwp_seq_k fun Nl hNl => ?_
    refine vwp_seq_k fun Nm hNm => vreg tt_ok hF rfl ?_; simp only [go_sem, Int.reduceEq, Int.reduceLT, Nat.reduceEqDiff, Nat.reduceAdd, Nat.reduceMul, Nat.reduceLT, Nat.reduceLeDiff, Int.reduceToNat]   -- R8
    refine hNm _ (VWp.keep [2,3,6] [2,3] ?_); simp only [go_sem, Int.reduceEq, Int.reduceLT, Nat.reduceEqDiff, Nat.reduceAdd, Nat.reduceMul, Nat.reduceLT, Nat.reduceLeDiff, Int.reduceToNat]
    refine vwp_block ?_
    refine vloop (fun k : Nat => [(2, .ptr 2 0), (3, .ptr 3 0), (6, .int .i64 (k : Int))]) (fun k => [(2, .box 39 [.sl 5 (c.us.map uniC), .int .i64 c.store, .sl 2 (c.ps.map parC)]), (3, .box 39 [.sl 5 (c.us.map uniC), .int .i64 c.store, .sl 2 (c.ps.map parC)])]) (fun k => k ≤ c.us.length) (fun k => c.us.length - k) 0 (by omega) (by simp only [go_sem, Int.reduceEq, Int.reduceLT, Nat.reduceEqDiff, Nat.reduceAdd, Nat.reduceMul, Nat.reduceLT, Nat.reduceLeDiff, Int.reduceToNat]; try rfl) ?_
    intro k hk
    refine vwp_seq_k fun Nn hNn => ?_
    refine vwp_seq_k fun No hNo => vreg tt_ok hF rfl ?_; simp only [go_sem, Int.reduceEq, Int.reduceLT, Nat.reduceEqDiff, Nat.reduceAdd, Nat.reduceMul, Nat.reduceLT, Nat.reduceLeDiff, Int.reduceToNat]   -- R9
    try simp only [List.length_map]
    refine hNo _ (VWp.keep [2,3,6,52] [2,3] ?_); simp only [go_sem, Int.reduceEq, Int.reduceLT, Nat.reduceEqDiff, Nat.reduceAdd, Nat.reduceMul, Nat.reduceLT, Nat.reduceLeDiff, Int.reduceToNat]
    refine vif rfl ⟨fun ht => ?_, fun hf => ?_⟩
    · have hq : k < c.us.length := by have := of_decide_eq_true ht; omega
      have hget := uni_row hq
      refine vwp_skip (hNn _ ?_)
      refine vwp_seq_k fun Np hNp => ?_
      refine vwp_block ?_
      refine vwp_seq_k fun Nq hNq => vregd tt_ok mixed hF rfl (by kernel_rfl) (by kernel_rfl) ?_
      simp only [hget, List.length_map, Int.toNat_natCast, decide_true, Bool.and_true, Bool.not_true, go_sem, Int.reduceEq, Int.reduceLT, Nat.reduceEqDiff, Nat.reduceAdd, Nat.reduceMul, Nat.reduceLT, Nat.reduceLeDiff, Int.reduceToNat]
      refine ⟨⟨by omega, by omega⟩, ⟨by omega, by omega⟩, ?_⟩
      refine hNq _ (VWp.keep [2,3,6,65] [2,3] ?_); simp only [go_sem, Int.reduceEq, Int.reduceLT, Nat.reduceEqDiff, Nat.reduceAdd, Nat.reduceMul, Nat.reduceLT, Nat.reduceLeDiff, Int.reduceToNat]
      refine vif rfl ⟨(fun hf => by first | cases hf | exact absurd hf (by decide)), fun ht => ?_⟩
      refine vwp_skip (hNp _ ?_)
      refine vreg tt_ok hF rfl ?_; simp only [go_sem, Int.reduceEq, Int.reduceLT, Nat.reduceEqDiff, Nat.reduceAdd, Nat.reduceMul, Nat.reduceLT, Nat.reduceLeDiff, Int.reduceToNat]   -- R10
      rw [wrap_i64 (by omega) (by omega)]
      exact ⟨k + 1, by omega, by omega, by simp⟩
    · refine vwp_exit ?_
      simp only [go_sem, Int.reduceEq, Int.reduceLT, Nat.reduceEqDiff, Nat.reduceAdd, Nat.reduceMul, Nat.reduceLT, Nat.reduceLeDiff, Int.reduceToNat]
      refine hNl _ (VWp.keepR [] [] tt_ok hF rfl fun Ns hNs => ?_); simp only [go_sem, Int.reduceEq, Int.reduceLT, Nat.reduceEqDiff, Nat.reduceAdd, Nat.reduceMul, Nat.reduceLT, Nat.reduceLeDiff, Int.reduceToNat]   -- R13
      refine hNs _ (VWp.keep [4] [] ?_); simp only [go_sem, Int.reduceEq, Int.reduceLT, Nat.reduceEqDiff, Nat.reduceAdd, Nat.reduceMul, Nat.reduceLT, Nat.reduceLeDiff, Int.reduceToNat]
      (refine vwp_ret ?_; simp only [go_sem, Int.reduceEq, Int.reduceLT, Nat.reduceEqDiff, Nat.reduceAdd, Nat.reduceMul, Nat.reduceLT, Nat.reduceLeDiff, Int.reduceToNat]; first | exact LeV.refl _ | exact LeV.of_eq (by simp))
set_option maxHeartbeats 8000000 in
set_option maxRecDepth 4000 in
theorem Ref_spec (c : CfgT) (h1 : c.us.length ≤ 1000000) (h2 : c.ps.length ≤ 1000000) : Spec Tryz.prog 15 [.agg (cfgC c)] (.agg (cfgC c)) := by
  unfold cfgC
  refine spec_of tt_ok Tryz.func15 rfl (by decide) Tryz.ntmps15 (congrArg Array.toList Tryz.results15) (by simp) (by decide) rfl rfl (fun F hF => ?_)
  refine vwp_seq_k fun Na hNa => vreg tt_ok hF rfl ?_; simp only [go_sem, Int.reduceEq, Int.reduceLT, Nat.reduceEqDiff, Nat.reduceAdd, Nat.reduceMul, Nat.reduceLT, Nat.reduceLeDiff, Int.reduceToNat]   -- R0
  refine hNa _ (VWp.keep [1,2] [1,2] ?_); simp only [go_sem, Int.reduceEq, Int.reduceLT, Nat.reduceEqDiff, Nat.reduceAdd, Nat.reduceMul, Nat.reduceLT, Nat.reduceLeDiff, Int.reduceToNat]
  refine vmeet (fun _ : Unit => [(1, .ptr 1 0), (2, .ptr 2 0), (3, .ptr 3 0)]) (fun _ => [(1, .box 25 [.sl 5 (c.us.map uniC), .int .i64 c.store, .sl 2 (c.ps.map parC)]), (2, .box 39 [.nil, .int .i64 0, .nil]), (3, .box 39 [.own 7 (c.us.map uniC).length, .int .i64 c.store, .nil]), (7, .arr 5 58 (c.us.map uniC))]) (fun _ => True) ?_ ?_
  · refine vregord tt_ok mixed hF rfl .no [[0, 1, 2, 3, 4, 5, 6, 7, 8], [0, 1, 2, 3, 4, 7, 5, 6, 8], [0, 2, 3, 4, 5, 1, 6, 7, 8], [0, 2, 3, 4, 7, 5, 1, 6, 8]] [] (by kernel_rfl) ?_
    refine ⟨?_, ?_, ?_, ?_, trivial⟩ <;> simp only [pickL, List.length_map, go_sem, Int.reduceEq, Int.reduceLT, Nat.reduceEqDiff, Nat.reduceAdd, Nat.reduceMul, Nat.reduceLT, Nat.reduceLeDiff, Int.reduceToNat]
    all_goals
      refine ⟨by omega, ?_⟩
      exact ⟨(), by simp⟩
  intro _ _
  refine VWp.adoptB 500012 2 72 (o := 3) (i := 2) rfl rfl rfl (by decide) ?_
  refine VWp.keep [1,2,3] [1,2,3,7,500012] ?_; simp only [go_sem, Int.reduceEq, Int.reduceLT, Nat.reduceEqDiff, Nat.reduceAdd, Nat.reduceMul, Nat.reduceLT, Nat.reduceLeDiff, Int.reduceToNat]
  refine vwp_seq_k fun Nc hNc => ?_
  refine vwp_seq_k fun Nd hNd => vreg tt_ok hF rfl ?_; simp only [go_sem, Int.reduceEq, Int.reduceLT, Nat.reduceEqDiff, Nat.reduceAdd, Nat.reduceMul, Nat.reduceLT, Nat.reduceLeDiff, Int.reduceToNat]   -- R2
  refine hNd _ (VWp.keep [1,2,3,4] [1,2,3,7,500012] ?_); simp only [go_sem, Int.reduceEq, Int.reduceLT, Nat.reduceEqDiff, Nat.reduceAdd, Nat.reduceMul, Nat.reduceLT, Nat.reduceLeDiff, Int.reduceToNat]
  refine vwp_block ?_
  refine vloop (fun k : Nat => [(1, .ptr 1 0), (2, .ptr 2 0), (3, .ptr 3 0), (4, .int .i64 (k : Int))])
    (fun k => [(1, .box 25 [.sl 5 (c.us.map uniC), .int .i64 c.store, .sl 2 (c.ps.map parC)]), (2, .box 39 [.nil, .int .i64 0, .nil]), (3, .box 39 [.own 7 (c.us.map uniC).length, .int .i64 c.store, .own 500012 ((c.ps.take k).map parC).length]), (7, .arr 5 58 (c.us.map uniC)), (500012, .arr 2 72 ((c.ps.take k).map parC))])
    (fun k => k ≤ c.ps.length) (fun k => c.ps.length - k) 0 (by omega) (by simp only [List.take_zero, List.map_nil, List.length_nil, List.length_map, go_sem, Int.reduceEq, Int.reduceLT, Nat.reduceEqDiff, Nat.reduceAdd, Nat.reduceMul, Nat.reduceLT, Nat.reduceLeDiff, Int.reduceToNat]; try simp) ?_
  intro k hk
  refine vwp_seq_k fun Ne hNe => ?_
  refine vwp_seq_k fun Nf hNf => vreg tt_ok hF rfl ?_; simp only [go_sem, Int.reduceEq, Int.reduceLT, Nat.reduceEqDiff, Nat.reduceAdd, Nat.reduceMul, Nat.reduceLT, Nat.reduceLeDiff, Int.reduceToNat]   -- R3
  try simp only [List.length_map]
  refine hNf _ (VWp.keep [1,2,3,4,16] [1,2,3,7,500012] ?_); simp only [go_sem, Int.reduceEq, Int.reduceLT, Nat.reduceEqDiff, Nat.reduceAdd, Nat.reduceMul, Nat.reduceLT, Nat.reduceLeDiff, Int.reduceToNat]
  refine vif rfl ⟨fun ht => ?_, fun hf => ?_⟩
  · have hq : k < c.ps.length := by have := of_decide_eq_true ht; omega
    have hget := par_row hq
    have hst : (c.ps.take (k + 1)).map parC = (c.ps.take k).map parC ++ [[.int .i64 (c.ps[k]).size, .str (c.ps[k]).cls]] := by rw [List.take_succ_eq_append_getElem hq, List.map_append]; rfl
    have hln : (c.ps.take k).length = k := by rw [List.length_take]; omega
    refine vwp_skip (hNe _ ?_)
    refine vwp_seq_k fun Ng hNg => ?_
    refine vwp_block ?_
    refine vregd tt_ok mixed hF rfl (by kernel_rfl) (by kernel_rfl) ?_
    simp only [hget, List.length_map, Int.toNat_natCast, go_sem, Int.reduceEq, Int.reduceLT, Nat.reduceEqDiff, Nat.reduceAdd, Nat.reduceMul, Nat.reduceLT, Nat.reduceLeDiff, Int.reduceToNat]
    refine ⟨⟨by omega, by omega⟩, ⟨by omega, by omega⟩, by omega, ?_⟩
    refine hNg _ (VWp.keep [1,2,3,4] [1,2,3,7,500012] ?_); simp only [go_sem, Int.reduceEq, Int.reduceLT, Nat.reduceEqDiff, Nat.reduceAdd, Nat.reduceMul, Nat.reduceLT, Nat.reduceLeDiff, Int.reduceToNat]
    refine vreg tt_ok hF rfl ?_; simp only [go_sem, Int.reduceEq, Int.reduceLT, Nat.reduceEqDiff, Nat.reduceAdd, Nat.reduceMul, Nat.reduceLT, Nat.reduceLeDiff, Int.reduceToNat]   -- R4
    rw [wrap_i64 (by omega) (by omega)]
    exact ⟨k + 1, by omega, by omega, by simp [hst]; try omega⟩
  · have hke : k = c.ps.length := by have := of_decide_eq_false hf; omega
    rw [hke, List.take_length]
    refine vwp_exit ?_
    simp only [go_sem, Int.reduceEq, Int.reduceLT, Nat.reduceEqDiff, Nat.reduceAdd, Nat.reduceMul, Nat.reduceLT, Nat.reduceLeDiff, Int.reduceToNat]
    refine hNc _ (VWp.keepR [2,3] [2,3,7,500012] tt_ok hF rfl fun Nh hNh => ?_); simp only [go_sem, Int.reduceEq, Int.reduceLT, Nat.reduceEqDiff, Nat.reduceAdd, Nat.reduceMul, Nat.reduceLT, Nat.reduceLeDiff, Int.reduceToNat]   -- R6
    refine hNh _ (VWp.keep [2] [2,7,500012] ?_); simp only [go_sem, Int.reduceEq, Int.reduceLT, Nat.reduceEqDiff, Nat.reduceAdd, Nat.reduceMul, Nat.reduceLT, Nat.reduceLeDiff, Int.reduceToNat]
    (refine vwp_ret ?_; simp only [go_sem, Int.reduceEq, Int.reduceLT, Nat.reduceEqDiff, Nat.reduceAdd, Nat.reduceMul, Nat.reduceLT, Nat.reduceLeDiff, Int.reduceToNat]; first | exact LeV.refl _ | exact LeV.of_eq (by simp))
end Go.Proofs.YtedbbinlcdgkoaaGreatDoor

/- Layer 19: ConfigParses. -/
namespace Go.Proofs.YtedbbinlcdgkoaaGreatDoor
open Go.RowKit Go.Lib
-- FUSE
-- LESS
set_option linter.unusedVariables false
set_option linter.unusedSimpArgs false
theorem parse_lens (t : Bs) : (parseT t).1.us.length ≤ 1000 ∧ (parseT t).1.ps.length ≤ 1000 := by
  by_cases h : (parseT t).2.2 = 0
  · have := val_of (parse_valid t h)
    have h1 := this.n; have h2 := this.p4
    omega
  · unfold parseT at h ⊢
    split
    · simp [zeroC]
    · rename_i h1
      rw [if_neg h1] at h
      split
      · rename_i h2
        rw [if_pos h2] at h
        split
        · rename_i h3
          rw [if_pos h3] at h
          exact absurd rfl h
        · simp [zeroC]
      · simp [zeroC]
set_option maxHeartbeats 4000000 in
set_option maxRecDepth 4000 in
theorem parses_spec (t : Bs) (ht : t.length ≤ 1000000) : Spec Tryz.prog 16 [.str t] (.bool true) := by
  have hp := Parse_spec t ht
  have hq := rParse_spec t ht
  obtain ⟨l1, l2⟩ := parse_lens t
  obtain ⟨⟨c, a, e⟩, hr⟩ : ∃ r, parseT t = r := ⟨_, rfl⟩
  rw [hr] at hp hq l1 l2
  simp only at l1 l2
  have href := Ref_spec c (by omega) (by omega)
  have hsm := rSame_same c l1 l2
  unfold resC cfgC at hp hq
  unfold cfgC at href hsm
  refine spec_of tt_ok Tryz.func16 rfl (by decide) Tryz.ntmps16 (congrArg Array.toList Tryz.results16) (by simp) (by decide) rfl rfl (fun F hF => ?_)
  refine vwp_seq_k fun Na hNa => vreg tt_ok hF rfl ?_; simp only [go_sem, Int.reduceEq, Int.reduceLT, Nat.reduceEqDiff, Nat.reduceAdd, Nat.reduceMul, Nat.reduceLT, Nat.reduceLeDiff, Int.reduceToNat]   -- R0
  refine hNa _ (VWp.keepR [0] [] tt_ok hF rfl fun Nb hNb => ?_); simp only [go_sem, Int.reduceEq, Int.reduceLT, Nat.reduceEqDiff, Nat.reduceAdd, Nat.reduceMul, Nat.reduceLT, Nat.reduceLeDiff, Int.reduceToNat]   -- R1
  refine .inl ⟨_, hp, ?_⟩; try simp only [go_sem, Int.reduceEq, Int.reduceLT, Nat.reduceEqDiff, Nat.reduceAdd, Nat.reduceMul, Nat.reduceLT, Nat.reduceLeDiff, Int.reduceToNat]
  refine hNb _ (VWp.keepR [0,3,4,5] [3] tt_ok hF rfl fun Nc hNc => ?_); simp only [go_sem, Int.reduceEq, Int.reduceLT, Nat.reduceEqDiff, Nat.reduceAdd, Nat.reduceMul, Nat.reduceLT, Nat.reduceLeDiff, Int.reduceToNat]   -- R2
  refine .inl ⟨_, hq, ?_⟩; try simp only [go_sem, Int.reduceEq, Int.reduceLT, Nat.reduceEqDiff, Nat.reduceAdd, Nat.reduceMul, Nat.reduceLT, Nat.reduceLeDiff, Int.reduceToNat]
  refine hNc _ (VWp.keep [3,4,5,6,7,8] [3,6] ?_); simp only [go_sem, Int.reduceEq, Int.reduceLT, Nat.reduceEqDiff, Nat.reduceAdd, Nat.reduceMul, Nat.reduceLT, Nat.reduceLeDiff, Int.reduceToNat]
  refine vwp_seq_k fun Nd hNd => vregd tt_ok mixed hF rfl (by kernel_rfl) (by kernel_rfl) ?_; simp only [go_sem, Int.reduceEq, Int.reduceLT, Nat.reduceEqDiff, Nat.reduceAdd, Nat.reduceMul, Nat.reduceLT, Nat.reduceLeDiff, Int.reduceToNat]   -- R3
  refine .inl ⟨_, href, ?_⟩; try simp only [go_sem, Int.reduceEq, Int.reduceLT, Nat.reduceEqDiff, Nat.reduceAdd, Nat.reduceMul, Nat.reduceLT, Nat.reduceLeDiff, Int.reduceToNat]
  refine .inl ⟨_, hsm, ?_⟩; try simp only [go_sem, Int.reduceEq, Int.reduceLT, Nat.reduceEqDiff, Nat.reduceAdd, Nat.reduceMul, Nat.reduceLT, Nat.reduceLeDiff, Int.reduceToNat]
  try simp only [decide_true, go_sem, Int.reduceEq, Int.reduceLT, Nat.reduceEqDiff, Nat.reduceAdd, Nat.reduceMul, Nat.reduceLT, Nat.reduceLeDiff, Int.reduceToNat]
  refine hNd _ (VWp.keep [2] [] ?_); simp only [go_sem, Int.reduceEq, Int.reduceLT, Nat.reduceEqDiff, Nat.reduceAdd, Nat.reduceMul, Nat.reduceLT, Nat.reduceLeDiff, Int.reduceToNat]
  (refine vwp_ret ?_; simp only [go_sem, Int.reduceEq, Int.reduceLT, Nat.reduceEqDiff, Nat.reduceAdd, Nat.reduceMul, Nat.reduceLT, Nat.reduceLeDiff, Int.reduceToNat]; first | exact LeV.refl _ | exact LeV.of_eq (by simp))
set_option maxHeartbeats 8000000 in
set_option maxRecDepth 4000 in
theorem ConfigParses_spec (text : Bs) (st : Nat) (hst : st < 256) (ps : List UInt8) (us : List UniT) (piece : Bs) (at0 n : Nat) (ha : at0 < 65536) (hn : n < 65536) :
    Spec Tryz.prog 4 [.str text, .agg (seedC st ps us), .str piece, .int .u16 at0, .int .u16 n] (.bool true) := by
  have hmake := Make_spec st hst ps us
  obtain ⟨c, hc⟩ : ∃ c, makeT st ps us = c := ⟨_, rfl⟩
  have hval := make_valid st ps us
  rw [hc] at hmake hval
  have hv := val_of hval
  have hvn := hv.n; have hvp := hv.p4
  have href := Ref_spec c (by omega) (by omega)
  have hpr := rPrint_spec c hv
  have hpl := print_len hval
  obtain ⟨T, hT⟩ : ∃ T, printT c = T := ⟨_, rfl⟩
  rw [hT] at hpr hpl
  unfold cfgC at hmake href hpr
  unfold seedC at hmake ⊢
  refine spec_of tt_ok Tryz.func4 rfl (by decide) Tryz.ntmps4 (congrArg Array.toList Tryz.results4) (by simp) (by decide) rfl rfl (fun F hF => ?_)
  refine vwp_seq_k fun Na hNa => vreg tt_ok hF rfl ?_; simp only [go_sem, Int.reduceEq, Int.reduceLT, Nat.reduceEqDiff, Nat.reduceAdd, Nat.reduceMul, Nat.reduceLT, Nat.reduceLeDiff, Int.reduceToNat]   -- R0
  refine hNa _ (VWp.keep [0,2,3,4,6] [6] ?_); simp only [go_sem, Int.reduceEq, Int.reduceLT, Nat.reduceEqDiff, Nat.reduceAdd, Nat.reduceMul, Nat.reduceLT, Nat.reduceLeDiff, Int.reduceToNat]
  refine vmeet (fun t : Bs => [(0, .str t), (2, .str piece), (3, .int .u16 at0), (4, .int .u16 n), (6, .ptr 6 0)]) (fun _ => [(6, .box 28 [.int .u8 st, .sl 1 (bytesR ps), .sl 5 (us.map uniC)])]) (fun t => t.length ≤ 2000) ?_ ?_
  · by_cases hbig : 2000 < text.length
    · have f1 : decide ((text.length : Int) > 2000) = true := decide_eq_true (by omega)
      have f2 : decide ((2000 : Int) < text.length) = true := decide_eq_true (by omega)
      refine vwp_seq_k fun Nc hNc => vreg tt_ok hF rfl ?_; simp only [f1, f2, go_sem, Int.reduceEq, Int.reduceLT, Nat.reduceEqDiff, Nat.reduceAdd, Nat.reduceMul, Nat.reduceLT, Nat.reduceLeDiff, Int.reduceToNat]
      refine hNc _ (VWp.keep [0,2,3,4,6,16] [6] ?_); simp only [go_sem, Int.reduceEq, Int.reduceLT, Nat.reduceEqDiff, Nat.reduceAdd, Nat.reduceMul, Nat.reduceLT, Nat.reduceLeDiff, Int.reduceToNat]
      refine vif rfl ⟨fun ht => ?_, (fun hf => by first | cases hf | exact absurd hf (by decide))⟩
      refine vreg tt_ok hF rfl ?_; simp only [go_sem, Int.reduceEq, Int.reduceLT, Nat.reduceEqDiff, Nat.reduceAdd, Nat.reduceMul, Nat.reduceLT, Nat.reduceLeDiff, Int.reduceToNat]
      refine ⟨by omega, ?_⟩
      exact ⟨text.take 2000, by simp; omega, by simp only [go_sem, Int.reduceEq, Int.reduceLT, Nat.reduceEqDiff, Nat.reduceAdd, Nat.reduceMul, Nat.reduceLT, Nat.reduceLeDiff, Int.reduceToNat]; try simp⟩
    · have f1 : decide ((text.length : Int) > 2000) = false := decide_eq_false (by omega)
      have f2 : decide ((2000 : Int) < text.length) = false := decide_eq_false (by omega)
      refine vwp_seq_k fun Nc hNc => vreg tt_ok hF rfl ?_; simp only [f1, f2, go_sem, Int.reduceEq, Int.reduceLT, Nat.reduceEqDiff, Nat.reduceAdd, Nat.reduceMul, Nat.reduceLT, Nat.reduceLeDiff, Int.reduceToNat]
      refine hNc _ (VWp.keep [0,2,3,4,6,16] [6] ?_); simp only [go_sem, Int.reduceEq, Int.reduceLT, Nat.reduceEqDiff, Nat.reduceAdd, Nat.reduceMul, Nat.reduceLT, Nat.reduceLeDiff, Int.reduceToNat]
      refine vif rfl ⟨(fun hf => by first | cases hf | exact absurd hf (by decide)), fun ht => ?_⟩
      refine vwp_skip ?_
      exact ⟨text, by omega, by simp only [go_sem, Int.reduceEq, Int.reduceLT, Nat.reduceEqDiff, Nat.reduceAdd, Nat.reduceMul, Nat.reduceLT, Nat.reduceLeDiff, Int.reduceToNat]; try trivial⟩
  intro t htl
  refine vmeet (fun p : Bs => [(0, .str t), (2, .str p), (3, .int .u16 at0), (4, .int .u16 n), (6, .ptr 6 0)]) (fun _ => [(6, .box 28 [.int .u8 st, .sl 1 (bytesR ps), .sl 5 (us.map uniC)])]) (fun p => p.length ≤ 40) ?_ ?_
  · by_cases hbig : 40 < piece.length
    · have f1 : decide ((piece.length : Int) > 40) = true := decide_eq_true (by omega)
      have f2 : decide ((40 : Int) < piece.length) = true := decide_eq_true (by omega)
      refine vwp_seq_k fun Ne hNe => vreg tt_ok hF rfl ?_; simp only [f1, f2, go_sem, Int.reduceEq, Int.reduceLT, Nat.reduceEqDiff, Nat.reduceAdd, Nat.reduceMul, Nat.reduceLT, Nat.reduceLeDiff, Int.reduceToNat]
      refine hNe _ (VWp.keep [0,2,3,4,6,21] [6] ?_); simp only [go_sem, Int.reduceEq, Int.reduceLT, Nat.reduceEqDiff, Nat.reduceAdd, Nat.reduceMul, Nat.reduceLT, Nat.reduceLeDiff, Int.reduceToNat]
      refine vif rfl ⟨fun ht => ?_, (fun hf => by first | cases hf | exact absurd hf (by decide))⟩
      refine vreg tt_ok hF rfl ?_; simp only [go_sem, Int.reduceEq, Int.reduceLT, Nat.reduceEqDiff, Nat.reduceAdd, Nat.reduceMul, Nat.reduceLT, Nat.reduceLeDiff, Int.reduceToNat]
      refine ⟨by omega, ?_⟩
      exact ⟨piece.take 40, by simp; omega, by simp only [go_sem, Int.reduceEq, Int.reduceLT, Nat.reduceEqDiff, Nat.reduceAdd, Nat.reduceMul, Nat.reduceLT, Nat.reduceLeDiff, Int.reduceToNat]; try simp⟩
    · have f1 : decide ((piece.length : Int) > 40) = false := decide_eq_false (by omega)
      have f2 : decide ((40 : Int) < piece.length) = false := decide_eq_false (by omega)
      refine vwp_seq_k fun Ne hNe => vreg tt_ok hF rfl ?_; simp only [f1, f2, go_sem, Int.reduceEq, Int.reduceLT, Nat.reduceEqDiff, Nat.reduceAdd, Nat.reduceMul, Nat.reduceLT, Nat.reduceLeDiff, Int.reduceToNat]
      refine hNe _ (VWp.keep [0,2,3,4,6,21] [6] ?_); simp only [go_sem, Int.reduceEq, Int.reduceLT, Nat.reduceEqDiff, Nat.reduceAdd, Nat.reduceMul, Nat.reduceLT, Nat.reduceLeDiff, Int.reduceToNat]
      refine vif rfl ⟨(fun hf => by first | cases hf | exact absurd hf (by decide)), fun ht => ?_⟩
      refine vwp_skip ?_
      exact ⟨piece, by omega, by simp only [go_sem, Int.reduceEq, Int.reduceLT, Nat.reduceEqDiff, Nat.reduceAdd, Nat.reduceMul, Nat.reduceLT, Nat.reduceLeDiff, Int.reduceToNat]; try trivial⟩
  intro p hpp
  refine vwp_seq_k fun Nf hNf => vreg tt_ok hF rfl ?_; simp only [go_sem, Int.reduceEq, Int.reduceLT, Nat.reduceEqDiff, Nat.reduceAdd, Nat.reduceMul, Nat.reduceLT, Nat.reduceLeDiff, Int.reduceToNat]   -- R5
  refine .inl ⟨_, hmake, ?_⟩; try simp only [go_sem, Int.reduceEq, Int.reduceLT, Nat.reduceEqDiff, Nat.reduceAdd, Nat.reduceMul, Nat.reduceLT, Nat.reduceLeDiff, Int.reduceToNat]
  refine .inl ⟨_, href, ?_⟩; try simp only [go_sem, Int.reduceEq, Int.reduceLT, Nat.reduceEqDiff, Nat.reduceAdd, Nat.reduceMul, Nat.reduceLT, Nat.reduceLeDiff, Int.reduceToNat]
  refine .inl ⟨_, hpr, ?_⟩; try simp only [go_sem, Int.reduceEq, Int.reduceLT, Nat.reduceEqDiff, Nat.reduceAdd, Nat.reduceMul, Nat.reduceLT, Nat.reduceLeDiff, Int.reduceToNat]
  refine hNf _ (VWp.keep [0,2,3,4,11] [] ?_); simp only [go_sem, Int.reduceEq, Int.reduceLT, Nat.reduceEqDiff, Nat.reduceAdd, Nat.reduceMul, Nat.reduceLT, Nat.reduceLeDiff, Int.reduceToNat]
  have w0 : IntKind.i64.wrap (at0 : Int) = (at0 : Int) := wrap_i64 (by omega) (by omega)
  have w1 : IntKind.i64.wrap ((T.length : Int) + 1) = ((T.length + 1 : Nat) : Int) := by rw [wrap_i64 (by omega) (by omega)]; omega
  have w2 : (at0 : Int).tmod ((T.length + 1 : Nat) : Int) = ((at0 % (T.length + 1) : Nat) : Int) := by rw [tmod_pos (by omega)]; rfl
  have hmod := Nat.mod_lt at0 (show 0 < T.length + 1 by omega)
  obtain ⟨F0, hF0⟩ : ∃ f, at0 % (T.length + 1) = f := ⟨_, rfl⟩
  rw [hF0] at w2 hmod
  refine vwp_seq_k fun Ng hNg => vreg tt_ok hF rfl ?_; simp only [go_sem, Int.reduceEq, Int.reduceLT, Nat.reduceEqDiff, Nat.reduceAdd, Nat.reduceMul, Nat.reduceLT, Nat.reduceLeDiff, Int.reduceToNat]   -- R6
  simp only [w0, w1, w2, go_sem, Int.reduceEq, Int.reduceLT, Nat.reduceEqDiff, Nat.reduceAdd, Nat.reduceMul, Nat.reduceLT, Nat.reduceLeDiff, Int.reduceToNat]
  refine ⟨by omega, ?_⟩
  refine hNg _ (VWp.keep [0,2,4,11,12] [] ?_); simp only [go_sem, Int.reduceEq, Int.reduceLT, Nat.reduceEqDiff, Nat.reduceAdd, Nat.reduceMul, Nat.reduceLT, Nat.reduceLeDiff, Int.reduceToNat]
  have w3 : IntKind.i64.wrap (n : Int) = (n : Int) := wrap_i64 (by omega) (by omega)
  have w4 : (n : Int).tmod 12 = ((n % 12 : Nat) : Int) := by rw [tmod_pos (by omega)]; omega
  have w5 : IntKind.i64.wrap ((F0 : Int) + ((n % 12 : Nat) : Int)) = ((F0 + n % 12 : Nat) : Int) := by rw [wrap_i64 (by omega) (by omega)]; omega
  refine vwp_seq_k fun Nh hNh => vreg tt_ok hF rfl ?_; simp only [go_sem, Int.reduceEq, Int.reduceLT, Nat.reduceEqDiff, Nat.reduceAdd, Nat.reduceMul, Nat.reduceLT, Nat.reduceLeDiff, Int.reduceToNat]   -- R7
  simp only [w3, w4, w5, go_sem, Int.reduceEq, Int.reduceLT, Nat.reduceEqDiff, Nat.reduceAdd, Nat.reduceMul, Nat.reduceLT, Nat.reduceLeDiff, Int.reduceToNat]
  obtain ⟨G, hG, hGl⟩ : ∃ G : Nat, (if ((F0 + n % 12 : Nat) : Int) < (T.length : Int) then ((F0 + n % 12 : Nat) : Int) else (T.length : Int)) = (G : Int) ∧ G ≤ T.length := by
    split
    · exact ⟨_, rfl, by omega⟩
    · exact ⟨_, rfl, Nat.le_refl _⟩
  rw [hG]
  refine hNh _ (VWp.keep [0,2,11,12,13] [] ?_); simp only [go_sem, Int.reduceEq, Int.reduceLT, Nat.reduceEqDiff, Nat.reduceAdd, Nat.reduceMul, Nat.reduceLT, Nat.reduceLeDiff, Int.reduceToNat]
  have tl : ∀ k, (T.take k).length ≤ 1100 := fun k => by rw [List.length_take]; omega
  have dl : ∀ k, (T.drop k).length ≤ 1100 := fun k => by rw [List.length_drop]; omega
  have hq1 := parses_spec t (by omega)
  have hq2 := parses_spec T (by omega)
  have hq3 := parses_spec ((T.take F0 ++ p) ++ T.drop G) (by rw [List.length_append, List.length_append]; have := tl F0; have := dl G; omega)
  have hq4 := parses_spec (T.take F0 ++ T.drop G) (by rw [List.length_append]; have := tl F0; have := dl G; omega)
  have hq5 := parses_spec ((T.take F0 ++ p) ++ T.drop F0) (by rw [List.length_append, List.length_append]; have := tl F0; have := dl F0; omega)
  have hq6 := parses_spec (T.take F0) (by have := tl F0; omega)
  have hq7 := parses_spec (T ++ p) (by rw [List.length_append]; omega)
  have tl0 := tl F0; have dl0 := dl F0; have dlG := dl G
  refine vwp_seq_k fun Ni hNi => vregd tt_ok mixed hF rfl (by kernel_rfl) (by kernel_rfl) ?_
  simp only [Int.toNat_natCast, List.take_length, go_sem, Int.reduceEq, Int.reduceLT, Nat.reduceEqDiff, Nat.reduceAdd, Nat.reduceMul, Nat.reduceLT, Nat.reduceLeDiff, Int.reduceToNat]
  refine .inl ⟨_, hq1, ?_⟩; try simp only [go_sem, Int.reduceEq, Int.reduceLT, Nat.reduceEqDiff, Nat.reduceAdd, Nat.reduceMul, Nat.reduceLT, Nat.reduceLeDiff, Int.reduceToNat]
  refine .inl ⟨_, hq2, ?_⟩; try simp only [go_sem, Int.reduceEq, Int.reduceLT, Nat.reduceEqDiff, Nat.reduceAdd, Nat.reduceMul, Nat.reduceLT, Nat.reduceLeDiff, Int.reduceToNat]
  simp only [Int.toNat_natCast, List.take_length, go_sem, Int.reduceEq, Int.reduceLT, Nat.reduceEqDiff, Nat.reduceAdd, Nat.reduceMul, Nat.reduceLT, Nat.reduceLeDiff, Int.reduceToNat]
  refine ⟨⟨by omega, by omega⟩, by omega, ⟨by omega, by omega, by omega⟩, by (rw [List.length_append]; omega), ?_⟩
  refine .inl ⟨_, hq3, ?_⟩; try simp only [go_sem, Int.reduceEq, Int.reduceLT, Nat.reduceEqDiff, Nat.reduceAdd, Nat.reduceMul, Nat.reduceLT, Nat.reduceLeDiff, Int.reduceToNat]
  try simp only [Int.toNat_natCast, List.take_length, go_sem, Int.reduceEq, Int.reduceLT, Nat.reduceEqDiff, Nat.reduceAdd, Nat.reduceMul, Nat.reduceLT, Nat.reduceLeDiff, Int.reduceToNat]
  refine ⟨⟨by omega, by omega⟩, ⟨by omega, by omega, by omega⟩, by omega, ?_⟩
  refine .inl ⟨_, hq4, ?_⟩; try simp only [go_sem, Int.reduceEq, Int.reduceLT, Nat.reduceEqDiff, Nat.reduceAdd, Nat.reduceMul, Nat.reduceLT, Nat.reduceLeDiff, Int.reduceToNat]
  try simp only [Int.toNat_natCast, List.take_length, go_sem, Int.reduceEq, Int.reduceLT, Nat.reduceEqDiff, Nat.reduceAdd, Nat.reduceMul, Nat.reduceLT, Nat.reduceLeDiff, Int.reduceToNat]
  refine ⟨⟨by omega, by omega⟩, by omega, ⟨by omega, by omega, by omega⟩, by (rw [List.length_append]; omega), ?_⟩
  refine .inl ⟨_, hq5, ?_⟩; try simp only [go_sem, Int.reduceEq, Int.reduceLT, Nat.reduceEqDiff, Nat.reduceAdd, Nat.reduceMul, Nat.reduceLT, Nat.reduceLeDiff, Int.reduceToNat]
  try simp only [Int.toNat_natCast, List.take_length, go_sem, Int.reduceEq, Int.reduceLT, Nat.reduceEqDiff, Nat.reduceAdd, Nat.reduceMul, Nat.reduceLT, Nat.reduceLeDiff, Int.reduceToNat]
  refine ⟨⟨by omega, by omega⟩, ?_⟩
  refine .inl ⟨_, hq6, ?_⟩; try simp only [go_sem, Int.reduceEq, Int.reduceLT, Nat.reduceEqDiff, Nat.reduceAdd, Nat.reduceMul, Nat.reduceLT, Nat.reduceLeDiff, Int.reduceToNat]
  try simp only [Int.toNat_natCast, List.take_length, go_sem, Int.reduceEq, Int.reduceLT, Nat.reduceEqDiff, Nat.reduceAdd, Nat.reduceMul, Nat.reduceLT, Nat.reduceLeDiff, Int.reduceToNat]
  refine ⟨by omega, ?_⟩
  refine .inl ⟨_, hq7, ?_⟩; try simp only [go_sem, Int.reduceEq, Int.reduceLT, Nat.reduceEqDiff, Nat.reduceAdd, Nat.reduceMul, Nat.reduceLT, Nat.reduceLeDiff, Int.reduceToNat]
  refine .inl ⟨_, works_spec, ?_⟩; try simp only [go_sem, Int.reduceEq, Int.reduceLT, Nat.reduceEqDiff, Nat.reduceAdd, Nat.reduceMul, Nat.reduceLT, Nat.reduceLeDiff, Int.reduceToNat]
  refine hNi _ (VWp.keep [10] [] ?_); simp only [go_sem, Int.reduceEq, Int.reduceLT, Nat.reduceEqDiff, Nat.reduceAdd, Nat.reduceMul, Nat.reduceLT, Nat.reduceLeDiff, Int.reduceToNat]
  (refine vwp_ret ?_; simp only [go_sem, Int.reduceEq, Int.reduceLT, Nat.reduceEqDiff, Nat.reduceAdd, Nat.reduceMul, Nat.reduceLT, Nat.reduceLeDiff, Int.reduceToNat]; first | exact LeV.refl _ | exact LeV.of_eq (by simp))
end Go.Proofs.YtedbbinlcdgkoaaGreatDoor
