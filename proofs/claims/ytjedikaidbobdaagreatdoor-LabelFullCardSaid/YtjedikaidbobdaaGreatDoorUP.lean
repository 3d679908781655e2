import Derived.Outline
import Derived.Test.YtjedikaidbobdaaGreatDoorUL

/- Layer 26: a file of a tape is read. -/
-- SIMP: beq_self_eq_true, Bool.and_self
namespace Go.Proofs.YtjedikaidbobdaaGreatDoor
open Go.RowKit
open Go.Lib (decDigits)
set_option linter.unusedVariables false
set_option linter.unusedSimpArgs false
set_option maxHeartbeats 32000000 in
set_option maxRecDepth 4000 in
theorem file_B (B : List TbT) (i n : Nat) (f : FilT) (gs : List (List Tb)) (hf : filOk f = true) (hrec : f.recs = gs.flatten) (hgs : ∀ g ∈ gs, GrpT f.dcb g) (hl : gs.flatten.length ≤ 4096)
    (hnt : f.name = [] ∨ f.name.getLast? ≠ some 32) (hn : n < 9999) (hB : B.length ≤ 1000000000) (L : LieT B i n f (gs.map (encG f.dcb))) :
    SpecB Tryz.prog 35 [.ptr 1000000 0, .int .i64 (n : Int)] [(1000000, scnO B i)] (.tup [filV f, .bool true]) [(1000000, scnO B (i + 7 + gs.length))] := by
  obtain ⟨⟨c1, c2⟩, c3⟩ : (nameOk f.name = true ∧ f.dcb.org = 1) ∧ chkT f.dcb = true := by unfold filOk at hf; simpa using hf
  have hlab := lab_ok c1 c3
  obtain ⟨o1, o2, b1, b2, hlens, hkeys⟩ := chk_parts c3
  have hfm : f.dcb.fmt = 1 ∨ f.dcb.fmt = 2 ∨ f.dcb.fmt = 3 := by
    unfold lensT at hlens
    by_cases q1 : f.dcb.fmt = 1
    · exact .inl q1
    · by_cases q2 : f.dcb.fmt = 2
      · exact .inr (.inl q2)
      · by_cases q3 : f.dcb.fmt = 3
        · exact .inr (.inr q3)
        · rw [if_neg q1, if_neg q2, if_neg q3] at hlens; cases hlens
  have hkk : f.dcb.klen = 0 ∧ f.dcb.kpos = 0 := by
    unfold keysT at hkeys
    rw [if_neg (by omega)] at hkeys
    simpa using hkeys
  have hgl := groups_len gs (fun g hg => (hgs g hg).ne)
  have hdl : (gs.map (encG f.dcb)).length = gs.length := List.length_map _
  obtain ⟨i1, hi1⟩ : ∃ x, x = i + 1 := ⟨_, rfl⟩
  obtain ⟨i2, hi2⟩ : ∃ x, x = i1 + 1 := ⟨_, rfl⟩
  obtain ⟨i3, hi3⟩ : ∃ x, x = i2 + 1 := ⟨_, rfl⟩
  obtain ⟨j0, hj0⟩ : ∃ x, x = i3 + gs.length := ⟨_, rfl⟩
  obtain ⟨j1, hj1⟩ : ∃ x, x = j0 + 1 := ⟨_, rfl⟩
  obtain ⟨j2, hj2⟩ : ∃ x, x = j1 + 1 := ⟨_, rfl⟩
  obtain ⟨j3, hj3⟩ : ∃ x, x = j2 + 1 := ⟨_, rfl⟩
  obtain ⟨j4, hj4⟩ : ∃ x, x = j3 + 1 := ⟨_, rfl⟩
  have k1 := lab1_ok (kind := hdrS) (n := n) (count := 0) hlab (by decide) rfl hn (by omega)
  have k2 := lab2_ok (kind := hdrS) hlab (by decide) rfl
  have k3 := lab1_ok (kind := eofS) (n := n) (count := gs.length) hlab (by decide) rfl hn (by omega)
  have k4 := lab2_ok (kind := eofS) hlab (by decide) rfl
  have ht1 := take_lab [72, 68, 82, 49] _ B i i1 hB L.p0 k1.1 (by rw [k1.2]; omega) rfl hi1
  have ht2 := take_lab [72, 68, 82, 50] _ B i1 i2 hB (by rw [hi1]; exact L.p1) k2.1 (by have := k2.2; omega) rfl hi2
  have hm1 := mark_at B i2 i3 hB (by rw [hi2, hi1]; exact L.p2) hi3
  have hm2 := mark_at B j0 j1 hB (by rw [hj0, hi3, hi2, hi1]; have := L.q0; rw [hdl] at this; exact this) hj1
  have ht3 := take_lab [69, 79, 70, 49] _ B j1 j2 hB (by have := L.q1; rw [hdl] at this; rw [← this]; congr 1; omega) k3.1 (by rw [k3.2]; omega) rfl hj2
  have ht4 := take_lab [69, 79, 70, 50] _ B j2 j3 hB (by have := L.q2; rw [hdl] at this; rw [← this]; congr 1; omega) k4.1 (by have := k4.2; omega) rfl hj3
  have hm3 := mark_at B j3 j4 hB (by have := L.q3; rw [hdl] at this; rw [← this]; congr 1; omega) hj4
  obtain ⟨d4, d5, d6, d7, d12⟩ := lab2_desc (kind := hdrS) rfl hlab hfm
  have hdes := description_spec _ f.dcb (padB_len _ 80 (by have := k2.2; omega)) hfm d4 d5 d6 (by omega) (by omega) hlab.r0 hlab.r1 d7 d12
  have ht48 := lab1_name (kind := hdrS) (n := n) (count := 0) rfl hlab
  have htr := TrimRight_spec (padB f.name 44) (by rw [padB_len _ _ hlab.nl]; omega)
  rw [trim_pad 44 hnt] at htr
  have hub := Unblock_spec f.dcb c3 gs hgs hl
  have hname := isName_spec f.name (by have := hlab.nl; omega)
  rw [c1] at hname
  have hlen1 : (padB (lab1 hdrS n 0 f) 80).length = 80 := padB_len _ 80 (by rw [k1.2]; omega)
  unfold scnO at ht1 ht2 hm1 hm2 ht3 ht4 hm3 ⊢
  have hpr1 : SpecB Tryz.prog 42 [.str hdrS, .int .i64 (n : Int), .int .i64 0, filV f] [] (.own 62 2) [(62, .arr 3 48 ((pairT hdrS n 0 f).map tbC))] := pair_specB hdrS n 0 f hlab (by decide) rfl hn (by omega)
  have hpr2 := pair_spec eofS n gs.length f hlab (by decide) rfl hn (by omega)
  have hmi : ∀ k, k < gs.length → ∃ g, (gs.map (encG f.dcb))[k]? = some g ∧ (B.map tbC).getD (i3 + k) [] = [.bool false, .sl 1 (g.map u8c), .bool false] ∧ i3 + k < B.length := by
    intro k hk
    have h0 := L.pd k (by rw [hdl]; exact hk)
    rw [show i + 3 + k = i3 + k by omega] at h0
    obtain ⟨hi, hb⟩ := List.getElem?_eq_some_iff.1 h0
    refine ⟨(gs.map (encG f.dcb))[k]'(by rw [hdl]; exact hk), List.getElem?_eq_getElem _, ?_, hi⟩
    rw [tb_row hi, hb]; rfl
  have hme : (B.map tbC).getD j0 [] = [.bool true, .sl 1 [], .bool false] ∧ j0 < B.length := by
    have h0 := L.q0
    rw [hdl, show i + 3 + gs.length = j0 by omega] at h0
    obtain ⟨hi, hb⟩ := List.getElem?_eq_some_iff.1 h0
    exact ⟨by rw [tb_row hi, hb]; rfl, hi⟩
  unfold dcbV at hub
  simp only [dcbC] at hub hdes
  unfold filV filC at hpr1 hpr2 ⊢
  rw [c2, hkk.1, hkk.2] at hub hpr1 hpr2 ⊢
  rw [hrec] at hpr1 hpr2 ⊢
  have lP1 : ((pairT hdrS n 0 f).map tbC).length = 2 := rfl
  have lP2 : ((pairT eofS n gs.length f).map tbC).length = 2 := rfl
  have hq : ∀ (a : Nat) (s : Tb), s.length ≤ 80 → B[a]? = some (labT s) → a < B.length ∧ (encT (padB s 80)).length ≤ 1000000000 ∧ (B.map tbC).getD a [] = tbC (labT s) := by
    intro a s hs h0
    obtain ⟨hi, hb⟩ := List.getElem?_eq_some_iff.1 h0
    refine ⟨hi, by unfold encT; rw [List.length_map, padB_len _ _ hs]; omega, ?_⟩
    rw [tb_row hi, hb]; rfl
  have hw : ∀ k, k < 4 → ∃ (a : Nat) (e : Bs), [[V.int .i64 (i : Int)], [V.int .i64 (i1 : Int)], [V.int .i64 (j1 : Int)], [V.int .i64 (j2 : Int)]].getD k [] = [V.int .i64 (a : Int)] ∧ a < B.length ∧ e.length ≤ 1000000000 ∧
      (B.map tbC).getD a [] = [.bool false, .sl 1 (e.map u8c), .bool false] ∧ ((pairT hdrS n 0 f).map tbC ++ (pairT eofS n gs.length f).map tbC).getD k [] = [.bool false, .sl 1 (e.map u8c), .bool false] := by
    intro k hk
    match k, hk with
    | 0, _ => have h := hq i _ (by rw [k1.2]; omega) L.p0; exact ⟨i, _, rfl, h.1, h.2.1, h.2.2, rfl⟩
    | 1, _ => have h := hq i1 (lab2 hdrS f) (by have := k2.2; omega) (by rw [hi1]; exact L.p1); exact ⟨i1, _, rfl, h.1, h.2.1, h.2.2, rfl⟩
    | 2, _ => have h := hq j1 (lab1 eofS n gs.length f) (by rw [k3.2]; omega) (by have := L.q1; rw [hdl] at this; rw [← this]; congr 1; omega); exact ⟨j1, _, rfl, h.1, h.2.1, h.2.2, rfl⟩
    | 3, _ => have h := hq j2 (lab2 eofS f) (by have := k4.2; omega) (by have := L.q2; rw [hdl] at this; rw [← this]; congr 1; omega); exact ⟨j2, _, rfl, h.1, h.2.1, h.2.2, rfl⟩
  generalize hP1 : (pairT hdrS n 0 f).map tbC = P1 at *
  generalize hP2 : (pairT eofS n gs.length f).map tbC = P2 at *
  simp only [hdrS, eofS] at hpr1 hpr2
  generalize hE : gs.map (encG f.dcb) = E at *
  generalize padB (lab1 hdrS n 0 f) 80 = T1 at *
  generalize padB (lab2 hdrS f) 80 = T2 at *
  generalize padB (lab1 eofS n gs.length f) 80 = T3 at *
  generalize padB (lab2 eofS f) 80 = T4 at *
  rw [show i + 7 + gs.length = j4 by omega]
  refine specB_of tt_ok Tryz.func35 rfl (by decide) Tryz.ntmps35 (congrArg Array.toList Tryz.results35) (by simp) (by decide) rfl (by simp only [go_sem, Int.reduceEq, Int.reduceNe, Int.reduceLT, Int.reduceLE, Nat.reduceEqDiff, Nat.reduceAdd, Nat.reduceMul, Nat.reduceLT, Nat.reduceLeDiff, Nat.reduceSub, reduceCtorEq, reduceIte, Int.reduceToNat, beq_self_eq_true, Bool.and_self]) (fun F hF => ?_)
  refine vwp_seq_k fun Na hNa => vreg tt_ok hF rfl ?_; simp only [go_sem, Int.reduceEq, Int.reduceNe, Int.reduceLT, Int.reduceLE, Nat.reduceEqDiff, Nat.reduceAdd, Nat.reduceMul, Nat.reduceLT, Nat.reduceLeDiff, Nat.reduceSub, reduceCtorEq, reduceIte, Int.reduceToNat, beq_self_eq_true, Bool.and_self]
  refine hNa _ (VWp.keepR [0,1,4] [4,1000000] tt_ok hF rfl fun Nb hNb => ?_); simp only [go_sem, Int.reduceEq, Int.reduceNe, Int.reduceLT, Int.reduceLE, Nat.reduceEqDiff, Nat.reduceAdd, Nat.reduceMul, Nat.reduceLT, Nat.reduceLeDiff, Nat.reduceSub, reduceCtorEq, reduceIte, Int.reduceToNat, beq_self_eq_true, Bool.and_self]
  refine hNb _ (VWp.keepR [0,1,4,6] [4,1000000] tt_ok hF rfl fun Nc hNc => ?_); simp only [go_sem, Int.reduceEq, Int.reduceNe, Int.reduceLT, Int.reduceLE, Nat.reduceEqDiff, Nat.reduceAdd, Nat.reduceMul, Nat.reduceLT, Nat.reduceLeDiff, Nat.reduceSub, reduceCtorEq, reduceIte, Int.reduceToNat, beq_self_eq_true, Bool.and_self]
  refine .inr (bxo [(1000000, 1000000)] rfl ?_); simp only [go_sem, Int.reduceEq, Int.reduceNe, Int.reduceLT, Int.reduceLE, Nat.reduceEqDiff, Nat.reduceAdd, Nat.reduceMul, Nat.reduceLT, Nat.reduceLeDiff, Nat.reduceSub, reduceCtorEq, reduceIte, Int.reduceToNat, beq_self_eq_true, Bool.and_self]; refine ⟨_, _, ht1, ?_⟩; try simp only [go_sem, Int.reduceEq, Int.reduceNe, Int.reduceLT, Int.reduceLE, Nat.reduceEqDiff, Nat.reduceAdd, Nat.reduceMul, Nat.reduceLT, Nat.reduceLeDiff, Nat.reduceSub, reduceCtorEq, reduceIte, Int.reduceToNat, beq_self_eq_true, Bool.and_self]
  refine hNc _ (VWp.keepR [0,1,4,6,7,8] [4,1000000] tt_ok hF rfl fun Nd hNd => ?_); simp only [go_sem, Int.reduceEq, Int.reduceNe, Int.reduceLT, Int.reduceLE, Nat.reduceEqDiff, Nat.reduceAdd, Nat.reduceMul, Nat.reduceLT, Nat.reduceLeDiff, Nat.reduceSub, reduceCtorEq, reduceIte, Int.reduceToNat, beq_self_eq_true, Bool.and_self]
  refine .inr (bxo [(1000000, 1000000)] rfl ?_); simp only [go_sem, Int.reduceEq, Int.reduceNe, Int.reduceLT, Int.reduceLE, Nat.reduceEqDiff, Nat.reduceAdd, Nat.reduceMul, Nat.reduceLT, Nat.reduceLeDiff, Nat.reduceSub, reduceCtorEq, reduceIte, Int.reduceToNat, beq_self_eq_true, Bool.and_self]; refine ⟨_, _, ht2, ?_⟩; try simp only [go_sem, Int.reduceEq, Int.reduceNe, Int.reduceLT, Int.reduceLE, Nat.reduceEqDiff, Nat.reduceAdd, Nat.reduceMul, Nat.reduceLT, Nat.reduceLeDiff, Nat.reduceSub, reduceCtorEq, reduceIte, Int.reduceToNat, beq_self_eq_true, Bool.and_self]
  refine hNd _ (VWp.keep [0,1,4,6,7,8,9,10] [4,1000000] ?_); simp only [go_sem, Int.reduceEq, Int.reduceNe, Int.reduceLT, Int.reduceLE, Nat.reduceEqDiff, Nat.reduceAdd, Nat.reduceMul, Nat.reduceLT, Nat.reduceLeDiff, Nat.reduceSub, reduceCtorEq, reduceIte, Int.reduceToNat, beq_self_eq_true, Bool.and_self]
  refine vwp_seq_k fun Ne hNe => ?_
  refine vwp_seq_k fun Nf hNf => vreg tt_ok hF rfl ?_; simp only [go_sem, Int.reduceEq, Int.reduceNe, Int.reduceLT, Int.reduceLE, Nat.reduceEqDiff, Nat.reduceAdd, Nat.reduceMul, Nat.reduceLT, Nat.reduceLeDiff, Nat.reduceSub, reduceCtorEq, reduceIte, Int.reduceToNat, beq_self_eq_true, Bool.and_self]
  refine .inr (bxo [(1000000, 1000000)] rfl ?_); simp only [go_sem, Int.reduceEq, Int.reduceNe, Int.reduceLT, Int.reduceLE, Nat.reduceEqDiff, Nat.reduceAdd, Nat.reduceMul, Nat.reduceLT, Nat.reduceLeDiff, Nat.reduceSub, reduceCtorEq, reduceIte, Int.reduceToNat, beq_self_eq_true, Bool.and_self]; refine ⟨_, _, hm1, ?_⟩; try simp only [go_sem, Int.reduceEq, Int.reduceNe, Int.reduceLT, Int.reduceLE, Nat.reduceEqDiff, Nat.reduceAdd, Nat.reduceMul, Nat.reduceLT, Nat.reduceLeDiff, Nat.reduceSub, reduceCtorEq, reduceIte, Int.reduceToNat, beq_self_eq_true, Bool.and_self]
  refine hNf _ (VWp.keep [0,1,4,6,7,9,42] [4,1000000] ?_); simp only [go_sem, Int.reduceEq, Int.reduceNe, Int.reduceLT, Int.reduceLE, Nat.reduceEqDiff, Nat.reduceAdd, Nat.reduceMul, Nat.reduceLT, Nat.reduceLeDiff, Nat.reduceSub, reduceCtorEq, reduceIte, Int.reduceToNat, beq_self_eq_true, Bool.and_self]
  refine vif rfl ⟨(fun ht => by cases ht), fun hf => ?_⟩
  refine vwp_skip (hNe _ ?_)
  refine vwp_seq_k fun Nh hNh => vreg tt_ok hF rfl ?_; simp only [go_sem, Int.reduceEq, Int.reduceNe, Int.reduceLT, Int.reduceLE, Nat.reduceEqDiff, Nat.reduceAdd, Nat.reduceMul, Nat.reduceLT, Nat.reduceLeDiff, Nat.reduceSub, reduceCtorEq, reduceIte, Int.reduceToNat, beq_self_eq_true, Bool.and_self]
  refine ⟨by omega, ?_⟩
  rw [ht48]
  refine .inl ⟨_, htr, ?_⟩; try simp only [go_sem, Int.reduceEq, Int.reduceNe, Int.reduceLT, Int.reduceLE, Nat.reduceEqDiff, Nat.reduceAdd, Nat.reduceMul, Nat.reduceLT, Nat.reduceLeDiff, Nat.reduceSub, reduceCtorEq, reduceIte, Int.reduceToNat, beq_self_eq_true, Bool.and_self]
  refine .inl ⟨_, hdes, ?_⟩; try simp only [go_sem, Int.reduceEq, Int.reduceNe, Int.reduceLT, Int.reduceLE, Nat.reduceEqDiff, Nat.reduceAdd, Nat.reduceMul, Nat.reduceLT, Nat.reduceLeDiff, Nat.reduceSub, reduceCtorEq, reduceIte, Int.reduceToNat, beq_self_eq_true, Bool.and_self]
  refine hNh _ (VWp.keepR [0,1,4,6,11] [4,11,1000000] tt_ok hF rfl fun Ni hNi => ?_); simp only [go_sem, Int.reduceEq, Int.reduceNe, Int.reduceLT, Int.reduceLE, Nat.reduceEqDiff, Nat.reduceAdd, Nat.reduceMul, Nat.reduceLT, Nat.reduceLeDiff, Nat.reduceSub, reduceCtorEq, reduceIte, Int.reduceToNat, beq_self_eq_true, Bool.and_self]
  refine hNi _ (VWp.keep [0,1,4,6,11,12] [4,11,1000000] ?_); simp only [go_sem, Int.reduceEq, Int.reduceNe, Int.reduceLT, Int.reduceLE, Nat.reduceEqDiff, Nat.reduceAdd, Nat.reduceMul, Nat.reduceLT, Nat.reduceLeDiff, Nat.reduceSub, reduceCtorEq, reduceIte, Int.reduceToNat, beq_self_eq_true, Bool.and_self]
  refine VWp.adopt 500000 1 45 (x := 12) rfl rfl (by decide) ?_ (closed_of (by simp only [go_sem, Int.reduceEq, Int.reduceNe, Int.reduceLT, Int.reduceLE, Nat.reduceEqDiff, Nat.reduceAdd, Nat.reduceMul, Nat.reduceLT, Nat.reduceLeDiff, Nat.reduceSub, reduceCtorEq, reduceIte, Int.reduceToNat, beq_self_eq_true, Bool.and_self]) (by simp only [go_sem, Int.reduceEq, Int.reduceNe, Int.reduceLT, Int.reduceLE, Nat.reduceEqDiff, Nat.reduceAdd, Nat.reduceMul, Nat.reduceLT, Nat.reduceLeDiff, Nat.reduceSub, reduceCtorEq, reduceIte, Int.reduceToNat, beq_self_eq_true, Bool.and_self]))
  refine vwp_seq_k fun Nj hNj => ?_
  refine vwp_block (vloop (fun k : Nat => [(0, .ptr 1000000 0), (1, .int .i64 (n : Int)), (4, .ptr 4 0), (6, .int .i64 (i : Int)), (11, .ptr 11 0), (12, .own 500000 ((E.take k).map blkR).length)])
    (fun k => [(4, .box 44 [.str [], .int .i64 0, .int .i64 0, .bool false, .bool false, .int .i64 0, .int .i64 0, .int .i64 0, .int .i64 0, .nil]), (11, .box 44 [.str f.name, .int .i64 1, .int .i64 f.dcb.fmt, .bool f.dcb.bl, .bool f.dcb.asa, .int .i64 f.dcb.lrecl, .int .i64 f.dcb.blk, .int .i64 0, .int .i64 0, .nil]), (500000, .arr 1 45 ((E.take k).map blkR)), (1000000, .box 69 [.sl 3 (B.map tbC), .int .i64 ((i3 + k : Nat) : Int)])])
    (fun k => k ≤ gs.length) (fun k => gs.length - k) 0 (Nat.zero_le _) (by simp only [List.take_zero, List.map_nil, List.length_nil, Nat.add_zero, go_sem, Int.reduceEq, Int.reduceNe, Int.reduceLT, Int.reduceLE, Nat.reduceEqDiff, Nat.reduceAdd, Nat.reduceMul, Nat.reduceLT, Nat.reduceLeDiff, Nat.reduceSub, reduceCtorEq, reduceIte, Int.reduceToNat, beq_self_eq_true, Bool.and_self]) ?_)
  intro k hk
  have htk : ((E.take k).map blkR).length = k := by rw [List.length_map, List.length_take]; omega
  refine vwp_seq_k fun Nk hNk => ?_
  rcases Nat.lt_or_ge k gs.length with hlt | hge
  · obtain ⟨g, hg1, hg2, hg3⟩ := hmi k hlt
    have e1 : decide (((i3 + k : Nat) : Int) < (B.length : Int)) = true := decide_eq_true (by omega)
    have hnext : (E.take k).map blkR ++ [[V.sl 1 (g.map u8c)]] = (E.take (k + 1)).map blkR := by
      rw [List.take_add_one, hg1, List.map_append]; rfl
    have hnl : ((E.take (k + 1)).map blkR).length = k + 1 := by rw [List.length_map, List.length_take]; omega
    refine vwp_seq_k fun Nl hNl => vregd tt_ok mixed hF rfl (by kernel_rfl) (by kernel_rfl) ?_; simp only [go_sem, Int.reduceEq, Int.reduceNe, Int.reduceLT, Int.reduceLE, Nat.reduceEqDiff, Nat.reduceAdd, Nat.reduceMul, Nat.reduceLT, Nat.reduceLeDiff, Nat.reduceSub, reduceCtorEq, reduceIte, Int.reduceToNat, beq_self_eq_true, Bool.and_self]
    simp only [List.length_map, e1, go_sem, Int.reduceEq, Int.reduceNe, Int.reduceLT, Int.reduceLE, Nat.reduceEqDiff, Nat.reduceAdd, Nat.reduceMul, Nat.reduceLT, Nat.reduceLeDiff, Nat.reduceSub, reduceCtorEq, reduceIte, Int.reduceToNat, beq_self_eq_true, Bool.and_self]
    refine ⟨⟨by omega, by omega⟩, ?_⟩
    simp only [hg2, Int.toNat_natCast, go_sem, Int.reduceEq, Int.reduceNe, Int.reduceLT, Int.reduceLE, Nat.reduceEqDiff, Nat.reduceAdd, Nat.reduceMul, Nat.reduceLT, Nat.reduceLeDiff, Nat.reduceSub, reduceCtorEq, reduceIte, Int.reduceToNat, beq_self_eq_true, Bool.and_self]
    refine hNl _ (VWp.keep [0,1,4,6,11,12,73] [4,11,500000,1000000] ?_); simp only [go_sem, Int.reduceEq, Int.reduceNe, Int.reduceLT, Int.reduceLE, Nat.reduceEqDiff, Nat.reduceAdd, Nat.reduceMul, Nat.reduceLT, Nat.reduceLeDiff, Nat.reduceSub, reduceCtorEq, reduceIte, Int.reduceToNat, beq_self_eq_true, Bool.and_self]
    refine vif rfl ⟨fun ht => ?_, (fun hf => by cases hf)⟩
    refine vwp_skip (hNk _ ?_)
    refine vwp_block ?_
    refine vwp_seq_k fun Nm hNm => ?_
    refine vwp_seq_k fun Nn hNn => vregd tt_ok mixed hF rfl (by kernel_rfl) (by kernel_rfl) ?_; simp only [go_sem, Int.reduceEq, Int.reduceNe, Int.reduceLT, Int.reduceLE, Nat.reduceEqDiff, Nat.reduceAdd, Nat.reduceMul, Nat.reduceLT, Nat.reduceLeDiff, Nat.reduceSub, reduceCtorEq, reduceIte, Int.reduceToNat, beq_self_eq_true, Bool.and_self]
    try simp only [List.length_map, go_sem, Int.reduceEq, Int.reduceNe, Int.reduceLT, Int.reduceLE, Nat.reduceEqDiff, Nat.reduceAdd, Nat.reduceMul, Nat.reduceLT, Nat.reduceLeDiff, Nat.reduceSub, reduceCtorEq, reduceIte, Int.reduceToNat, beq_self_eq_true, Bool.and_self]
    refine ⟨⟨by omega, by omega⟩, ?_⟩
    simp only [hg2, Int.toNat_natCast, go_sem, Int.reduceEq, Int.reduceNe, Int.reduceLT, Int.reduceLE, Nat.reduceEqDiff, Nat.reduceAdd, Nat.reduceMul, Nat.reduceLT, Nat.reduceLeDiff, Nat.reduceSub, reduceCtorEq, reduceIte, Int.reduceToNat, beq_self_eq_true, Bool.and_self]
    refine hNn _ (VWp.keep [0,1,4,6,11,12,84] [4,11,500000,1000000] ?_); simp only [go_sem, Int.reduceEq, Int.reduceNe, Int.reduceLT, Int.reduceLE, Nat.reduceEqDiff, Nat.reduceAdd, Nat.reduceMul, Nat.reduceLT, Nat.reduceLeDiff, Nat.reduceSub, reduceCtorEq, reduceIte, Int.reduceToNat, beq_self_eq_true, Bool.and_self]
    refine vif rfl ⟨(fun ht => by cases ht), fun hf => ?_⟩
    refine vwp_skip (hNm _ ?_)
    refine vwp_seq_k fun Np hNp => vregd tt_ok mixed hF rfl (by kernel_rfl) (by kernel_rfl) ?_; simp only [go_sem, Int.reduceEq, Int.reduceNe, Int.reduceLT, Int.reduceLE, Nat.reduceEqDiff, Nat.reduceAdd, Nat.reduceMul, Nat.reduceLT, Nat.reduceLeDiff, Nat.reduceSub, reduceCtorEq, reduceIte, Int.reduceToNat, beq_self_eq_true, Bool.and_self]
    try simp only [List.length_map, go_sem, Int.reduceEq, Int.reduceNe, Int.reduceLT, Int.reduceLE, Nat.reduceEqDiff, Nat.reduceAdd, Nat.reduceMul, Nat.reduceLT, Nat.reduceLeDiff, Nat.reduceSub, reduceCtorEq, reduceIte, Int.reduceToNat, beq_self_eq_true, Bool.and_self]
    refine ⟨⟨by omega, by omega⟩, ?_⟩
    simp only [hg2, Int.toNat_natCast, go_sem, Int.reduceEq, Int.reduceNe, Int.reduceLT, Int.reduceLE, Nat.reduceEqDiff, Nat.reduceAdd, Nat.reduceMul, Nat.reduceLT, Nat.reduceLeDiff, Nat.reduceSub, reduceCtorEq, reduceIte, Int.reduceToNat, beq_self_eq_true, Bool.and_self]
    refine ⟨by first | omega | (simp only [List.length_map] at *; omega), ?_⟩
    rw [hnext]
    refine hNp _ (VWp.keep [0,1,4,6,11,12] [4,11,500000,1000000] ?_); simp only [go_sem, Int.reduceEq, Int.reduceNe, Int.reduceLT, Int.reduceLE, Nat.reduceEqDiff, Nat.reduceAdd, Nat.reduceMul, Nat.reduceLT, Nat.reduceLeDiff, Nat.reduceSub, reduceCtorEq, reduceIte, Int.reduceToNat, beq_self_eq_true, Bool.and_self]
    refine vreg tt_ok hF rfl ?_; simp only [go_sem, Int.reduceEq, Int.reduceNe, Int.reduceLT, Int.reduceLE, Nat.reduceEqDiff, Nat.reduceAdd, Nat.reduceMul, Nat.reduceLT, Nat.reduceLeDiff, Nat.reduceSub, reduceCtorEq, reduceIte, Int.reduceToNat, beq_self_eq_true, Bool.and_self]
    rw [wrap_i64 (by omega) (by omega)]
    exact ⟨k + 1, by omega, by omega, by first | (simp; done) | (simp; omega)⟩
  · have hke : k = gs.length := by omega
    subst hke
    have e1 : decide (((i3 + gs.length : Nat) : Int) < (B.length : Int)) = true := decide_eq_true (by omega)
    have hEl : E.take gs.length = E := List.take_of_length_le (by omega)
    rw [← hj0] at e1 ⊢
    rw [hEl]
    refine vwp_seq_k fun Nl hNl => vregd tt_ok mixed hF rfl (by kernel_rfl) (by kernel_rfl) ?_; simp only [go_sem, Int.reduceEq, Int.reduceNe, Int.reduceLT, Int.reduceLE, Nat.reduceEqDiff, Nat.reduceAdd, Nat.reduceMul, Nat.reduceLT, Nat.reduceLeDiff, Nat.reduceSub, reduceCtorEq, reduceIte, Int.reduceToNat, beq_self_eq_true, Bool.and_self]
    simp only [List.length_map, e1, go_sem, Int.reduceEq, Int.reduceNe, Int.reduceLT, Int.reduceLE, Nat.reduceEqDiff, Nat.reduceAdd, Nat.reduceMul, Nat.reduceLT, Nat.reduceLeDiff, Nat.reduceSub, reduceCtorEq, reduceIte, Int.reduceToNat, beq_self_eq_true, Bool.and_self]
    refine ⟨⟨by omega, by omega⟩, ?_⟩
    simp only [hme.1, Int.toNat_natCast, go_sem, Int.reduceEq, Int.reduceNe, Int.reduceLT, Int.reduceLE, Nat.reduceEqDiff, Nat.reduceAdd, Nat.reduceMul, Nat.reduceLT, Nat.reduceLeDiff, Nat.reduceSub, reduceCtorEq, reduceIte, Int.reduceToNat, beq_self_eq_true, Bool.and_self]
    refine hNl _ (VWp.keep [0,1,4,6,11,12,73] [4,11,500000,1000000] ?_); simp only [go_sem, Int.reduceEq, Int.reduceNe, Int.reduceLT, Int.reduceLE, Nat.reduceEqDiff, Nat.reduceAdd, Nat.reduceMul, Nat.reduceLT, Nat.reduceLeDiff, Nat.reduceSub, reduceCtorEq, reduceIte, Int.reduceToNat, beq_self_eq_true, Bool.and_self]
    refine vif rfl ⟨(fun ht => by cases ht), fun hf => ?_⟩
    refine vwp_exit ?_
    simp only [go_sem, Int.reduceEq, Int.reduceNe, Int.reduceLT, Int.reduceLE, Nat.reduceEqDiff, Nat.reduceAdd, Nat.reduceMul, Nat.reduceLT, Nat.reduceLeDiff, Nat.reduceSub, reduceCtorEq, reduceIte, Int.reduceToNat, beq_self_eq_true, Bool.and_self]
    refine hNj _ (VWp.keepR [0,1,4,6,11,12] [4,11,500000,1000000] tt_ok hF rfl fun Nq hNq => ?_); simp only [go_sem, Int.reduceEq, Int.reduceNe, Int.reduceLT, Int.reduceLE, Nat.reduceEqDiff, Nat.reduceAdd, Nat.reduceMul, Nat.reduceLT, Nat.reduceLeDiff, Nat.reduceSub, reduceCtorEq, reduceIte, Int.reduceToNat, beq_self_eq_true, Bool.and_self]
    refine .inl ⟨_, hub, ?_⟩; try simp only [go_sem, Int.reduceEq, Int.reduceNe, Int.reduceLT, Int.reduceLE, Nat.reduceEqDiff, Nat.reduceAdd, Nat.reduceMul, Nat.reduceLT, Nat.reduceLeDiff, Nat.reduceSub, reduceCtorEq, reduceIte, Int.reduceToNat, beq_self_eq_true, Bool.and_self]
    refine hNq _ (VWp.keep [0,1,4,6,11,12,13,14] [4,11,500000,1000000] ?_); simp only [go_sem, Int.reduceEq, Int.reduceNe, Int.reduceLT, Int.reduceLE, Nat.reduceEqDiff, Nat.reduceAdd, Nat.reduceMul, Nat.reduceLT, Nat.reduceLeDiff, Nat.reduceSub, reduceCtorEq, reduceIte, Int.reduceToNat, beq_self_eq_true, Bool.and_self]
    refine vwp_seq_k fun Nr hNr => ?_
    refine vwp_seq_k fun Ns hNs => vreg tt_ok hF rfl ?_; simp only [go_sem, Int.reduceEq, Int.reduceNe, Int.reduceLT, Int.reduceLE, Nat.reduceEqDiff, Nat.reduceAdd, Nat.reduceMul, Nat.reduceLT, Nat.reduceLeDiff, Nat.reduceSub, reduceCtorEq, reduceIte, Int.reduceToNat, beq_self_eq_true, Bool.and_self]
    refine .inl ⟨_, hname, ?_⟩; try simp only [go_sem, Int.reduceEq, Int.reduceNe, Int.reduceLT, Int.reduceLE, Nat.reduceEqDiff, Nat.reduceAdd, Nat.reduceMul, Nat.reduceLT, Nat.reduceLeDiff, Nat.reduceSub, reduceCtorEq, reduceIte, Int.reduceToNat, beq_self_eq_true, Bool.and_self]
    refine .inr (bxo [(1000000, 1000000)] rfl ?_); simp only [go_sem, Int.reduceEq, Int.reduceNe, Int.reduceLT, Int.reduceLE, Nat.reduceEqDiff, Nat.reduceAdd, Nat.reduceMul, Nat.reduceLT, Nat.reduceLeDiff, Nat.reduceSub, reduceCtorEq, reduceIte, Int.reduceToNat, beq_self_eq_true, Bool.and_self]; refine ⟨_, _, hm2, ?_⟩; try simp only [go_sem, Int.reduceEq, Int.reduceNe, Int.reduceLT, Int.reduceLE, Nat.reduceEqDiff, Nat.reduceAdd, Nat.reduceMul, Nat.reduceLT, Nat.reduceLeDiff, Nat.reduceSub, reduceCtorEq, reduceIte, Int.reduceToNat, beq_self_eq_true, Bool.and_self]
    refine hNs _ (VWp.keep [0,1,4,6,11,12,13,126] [4,11,500000,1000000] ?_); simp only [go_sem, Int.reduceEq, Int.reduceNe, Int.reduceLT, Int.reduceLE, Nat.reduceEqDiff, Nat.reduceAdd, Nat.reduceMul, Nat.reduceLT, Nat.reduceLeDiff, Nat.reduceSub, reduceCtorEq, reduceIte, Int.reduceToNat, beq_self_eq_true, Bool.and_self]
    refine vif rfl ⟨(fun ht => by cases ht), fun hf => ?_⟩
    refine vwp_skip (hNr _ ?_)
    refine vwp_seq_k fun Nu hNu => vreg tt_ok hF rfl ?_; simp only [go_sem, Int.reduceEq, Int.reduceNe, Int.reduceLT, Int.reduceLE, Nat.reduceEqDiff, Nat.reduceAdd, Nat.reduceMul, Nat.reduceLT, Nat.reduceLeDiff, Nat.reduceSub, reduceCtorEq, reduceIte, Int.reduceToNat, beq_self_eq_true, Bool.and_self]
    refine hNu _ (VWp.keep [0,1,4,6,11,12] [4,11,500000,1000000] ?_); simp only [go_sem, Int.reduceEq, Int.reduceNe, Int.reduceLT, Int.reduceLE, Nat.reduceEqDiff, Nat.reduceAdd, Nat.reduceMul, Nat.reduceLT, Nat.reduceLeDiff, Nat.reduceSub, reduceCtorEq, reduceIte, Int.reduceToNat, beq_self_eq_true, Bool.and_self]
    rw [hdl]
    refine vmeet (fun _ : Nat => [(0, .ptr 1000000 0), (4, .ptr 4 0), (6, .int .i64 (i : Int)), (11, .ptr 11 0), (15, .own 132 (P1 ++ P2).length)])
      (fun _ => [(4, .box 44 [.str [], .int .i64 0, .int .i64 0, .bool false, .bool false, .int .i64 0, .int .i64 0, .int .i64 0, .int .i64 0, .nil]), (11, .box 44 [.str f.name, .int .i64 1, .int .i64 f.dcb.fmt, .bool f.dcb.bl, .bool f.dcb.asa, .int .i64 f.dcb.lrecl, .int .i64 f.dcb.blk, .int .i64 0, .int .i64 0, .sl 1 (gs.flatten.map blkR)]), (132, .arr 3 48 (P1 ++ P2)), (1000000, .box 69 [.sl 3 (B.map tbC), .int .i64 (j1 : Int)])]) (fun z => z = 0) ?_ ?_
    · refine vregord tt_ok mixed hF rfl (.at [132]) [[0, 1, 2, 3, 4, 5, 6, 7, 8, 9], [0, 1, 6, 2, 3, 4, 5, 7, 8, 9]] [(132, (.own 132 2, [(132, .arr 3 48 P1)])), (137, (.sl 3 P2, []))] (by kernel_rfl) ⟨?_, ?_, trivial⟩ <;> simp only [pickL, go_sem, Int.reduceEq, Int.reduceNe, Int.reduceLT, Int.reduceLE, Nat.reduceEqDiff, Nat.reduceAdd, Nat.reduceMul, Nat.reduceLT, Nat.reduceLeDiff, Nat.reduceSub, reduceCtorEq, reduceIte, Int.reduceToNat, beq_self_eq_true, Bool.and_self]
      all_goals
        try rw [hdl]
        refine .inr (bxo [(62, 132)] rfl ?_); simp only [go_sem, Int.reduceEq, Int.reduceNe, Int.reduceLT, Int.reduceLE, Nat.reduceEqDiff, Nat.reduceAdd, Nat.reduceMul, Nat.reduceLT, Nat.reduceLeDiff, Nat.reduceSub, reduceCtorEq, reduceIte, Int.reduceToNat, beq_self_eq_true, Bool.and_self]; refine ⟨_, _, hpr1, ?_⟩; try simp only [go_sem, Int.reduceEq, Int.reduceNe, Int.reduceLT, Int.reduceLE, Nat.reduceEqDiff, Nat.reduceAdd, Nat.reduceMul, Nat.reduceLT, Nat.reduceLeDiff, Nat.reduceSub, reduceCtorEq, reduceIte, Int.reduceToNat, beq_self_eq_true, Bool.and_self]
        try rw [hdl]
        try refine ⟨rfl, ?_⟩
        refine .inl ⟨_, hpr2, ?_⟩; try simp only [go_sem, Int.reduceEq, Int.reduceNe, Int.reduceLT, Int.reduceLE, Nat.reduceEqDiff, Nat.reduceAdd, Nat.reduceMul, Nat.reduceLT, Nat.reduceLeDiff, Nat.reduceSub, reduceCtorEq, reduceIte, Int.reduceToNat, beq_self_eq_true, Bool.and_self]
        try refine ⟨rfl, ?_⟩
        refine ⟨⟨by omega, by omega⟩, ?_⟩
        exact ⟨0, by simp⟩
    intro z hz
    refine vwp_seq_k fun Nw hNw => vreg tt_ok hF rfl ?_; simp only [go_sem, Int.reduceEq, Int.reduceNe, Int.reduceLT, Int.reduceLE, Nat.reduceEqDiff, Nat.reduceAdd, Nat.reduceMul, Nat.reduceLT, Nat.reduceLeDiff, Nat.reduceSub, reduceCtorEq, reduceIte, Int.reduceToNat, beq_self_eq_true, Bool.and_self]
    refine .inr (bxo [(1000000, 1000000)] rfl ?_); simp only [go_sem, Int.reduceEq, Int.reduceNe, Int.reduceLT, Int.reduceLE, Nat.reduceEqDiff, Nat.reduceAdd, Nat.reduceMul, Nat.reduceLT, Nat.reduceLeDiff, Nat.reduceSub, reduceCtorEq, reduceIte, Int.reduceToNat, beq_self_eq_true, Bool.and_self]; refine ⟨_, _, ht3, ?_⟩; try simp only [go_sem, Int.reduceEq, Int.reduceNe, Int.reduceLT, Int.reduceLE, Nat.reduceEqDiff, Nat.reduceAdd, Nat.reduceMul, Nat.reduceLT, Nat.reduceLeDiff, Nat.reduceSub, reduceCtorEq, reduceIte, Int.reduceToNat, beq_self_eq_true, Bool.and_self]
    refine hNw _ (VWp.keepR [0,4,6,8,11,15] [4,11,132,1000000] tt_ok hF rfl fun Nx hNx => ?_); simp only [go_sem, Int.reduceEq, Int.reduceNe, Int.reduceLT, Int.reduceLE, Nat.reduceEqDiff, Nat.reduceAdd, Nat.reduceMul, Nat.reduceLT, Nat.reduceLeDiff, Nat.reduceSub, reduceCtorEq, reduceIte, Int.reduceToNat, beq_self_eq_true, Bool.and_self]
    refine .inr (bxo [(1000000, 1000000)] rfl ?_); simp only [go_sem, Int.reduceEq, Int.reduceNe, Int.reduceLT, Int.reduceLE, Nat.reduceEqDiff, Nat.reduceAdd, Nat.reduceMul, Nat.reduceLT, Nat.reduceLeDiff, Nat.reduceSub, reduceCtorEq, reduceIte, Int.reduceToNat, beq_self_eq_true, Bool.and_self]; refine ⟨_, _, ht4, ?_⟩; try simp only [go_sem, Int.reduceEq, Int.reduceNe, Int.reduceLT, Int.reduceLE, Nat.reduceEqDiff, Nat.reduceAdd, Nat.reduceMul, Nat.reduceLT, Nat.reduceLeDiff, Nat.reduceSub, reduceCtorEq, reduceIte, Int.reduceToNat, beq_self_eq_true, Bool.and_self]
    refine hNx _ (VWp.keep [0,4,6,8,10,11,15] [4,11,132,1000000] ?_); simp only [go_sem, Int.reduceEq, Int.reduceNe, Int.reduceLT, Int.reduceLE, Nat.reduceEqDiff, Nat.reduceAdd, Nat.reduceMul, Nat.reduceLT, Nat.reduceLeDiff, Nat.reduceSub, reduceCtorEq, reduceIte, Int.reduceToNat, beq_self_eq_true, Bool.and_self]
    refine vwp_seq_k fun Ny hNy => ?_
    refine vwp_seq_k fun Nz hNz => vreg tt_ok hF rfl ?_; simp only [go_sem, Int.reduceEq, Int.reduceNe, Int.reduceLT, Int.reduceLE, Nat.reduceEqDiff, Nat.reduceAdd, Nat.reduceMul, Nat.reduceLT, Nat.reduceLeDiff, Nat.reduceSub, reduceCtorEq, reduceIte, Int.reduceToNat, beq_self_eq_true, Bool.and_self]
    refine .inr (bxo [(1000000, 1000000)] rfl ?_); simp only [go_sem, Int.reduceEq, Int.reduceNe, Int.reduceLT, Int.reduceLE, Nat.reduceEqDiff, Nat.reduceAdd, Nat.reduceMul, Nat.reduceLT, Nat.reduceLeDiff, Nat.reduceSub, reduceCtorEq, reduceIte, Int.reduceToNat, beq_self_eq_true, Bool.and_self]; refine ⟨_, _, hm3, ?_⟩; try simp only [go_sem, Int.reduceEq, Int.reduceNe, Int.reduceLT, Int.reduceLE, Nat.reduceEqDiff, Nat.reduceAdd, Nat.reduceMul, Nat.reduceLT, Nat.reduceLeDiff, Nat.reduceSub, reduceCtorEq, reduceIte, Int.reduceToNat, beq_self_eq_true, Bool.and_self]
    refine hNz _ (VWp.keep [0,4,6,11,15,159] [4,11,132,1000000] ?_); simp only [go_sem, Int.reduceEq, Int.reduceNe, Int.reduceLT, Int.reduceLE, Nat.reduceEqDiff, Nat.reduceAdd, Nat.reduceMul, Nat.reduceLT, Nat.reduceLeDiff, Nat.reduceSub, reduceCtorEq, reduceIte, Int.reduceToNat, beq_self_eq_true, Bool.and_self]
    refine vif rfl ⟨(fun ht => by cases ht), fun hf => ?_⟩
    refine vwp_skip (hNy _ ?_)
    refine vwp_seq_k fun Nab hNab => ?_
    refine vwp_seq_k fun Nac hNac => vregd tt_ok mixed hF rfl (by kernel_rfl) (by kernel_rfl) ?_; simp only [go_sem, Int.reduceEq, Int.reduceNe, Int.reduceLT, Int.reduceLE, Nat.reduceEqDiff, Nat.reduceAdd, Nat.reduceMul, Nat.reduceLT, Nat.reduceLeDiff, Nat.reduceSub, reduceCtorEq, reduceIte, Int.reduceToNat, beq_self_eq_true, Bool.and_self]
    rw [show IntKind.i64.wrap ((i : Int) + 1) = (i1 : Int) by rw [wrap_i64 (by omega) (by omega)]; omega, show IntKind.i64.wrap ((j4 : Int) - 3) = (j1 : Int) by rw [wrap_i64 (by omega) (by omega)]; omega, show IntKind.i64.wrap ((j4 : Int) - 2) = (j2 : Int) by rw [wrap_i64 (by omega) (by omega)]; omega]
    refine hNac _ (VWp.keep [0,4,11,15,174,175,176] [4,11,132,174,1000000] ?_); simp only [go_sem, Int.reduceEq, Int.reduceNe, Int.reduceLT, Int.reduceLE, Nat.reduceEqDiff, Nat.reduceAdd, Nat.reduceMul, Nat.reduceLT, Nat.reduceLeDiff, Nat.reduceSub, reduceCtorEq, reduceIte, Int.reduceToNat, beq_self_eq_true, Bool.and_self]
    have lW : [[V.int .i64 (i : Int)], [V.int .i64 (i1 : Int)], [V.int .i64 (j1 : Int)], [V.int .i64 (j2 : Int)]].length = 4 := rfl
    generalize [[V.int .i64 (i : Int)], [V.int .i64 (i1 : Int)], [V.int .i64 (j1 : Int)], [V.int .i64 (j2 : Int)]] = W at *
    refine vwp_block (vloop (fun k : Nat => [(0, .ptr 1000000 0), (4, .ptr 4 0), (11, .ptr 11 0), (15, .own 132 (P1 ++ P2).length), (174, .own 174 W.length), (175, .int .i64 4), (176, .int .i64 (k : Int))])
      (fun k => [(4, .box 44 [.str [], .int .i64 0, .int .i64 0, .bool false, .bool false, .int .i64 0, .int .i64 0, .int .i64 0, .int .i64 0, .nil]), (11, .box 44 [.str f.name, .int .i64 1, .int .i64 f.dcb.fmt, .bool f.dcb.bl, .bool f.dcb.asa, .int .i64 f.dcb.lrecl, .int .i64 f.dcb.blk, .int .i64 0, .int .i64 0, .sl 1 (gs.flatten.map blkR)]), (132, .arr 3 48 (P1 ++ P2)), (174, .arr 1 3 W), (1000000, .box 69 [.sl 3 (B.map tbC), .int .i64 (j4 : Int)])])
      (fun k => k ≤ 4) (fun k => 4 - k) 0 (Nat.zero_le _) (by simp only [lW, go_sem, Int.reduceEq, Int.reduceNe, Int.reduceLT, Int.reduceLE, Nat.reduceEqDiff, Nat.reduceAdd, Nat.reduceMul, Nat.reduceLT, Nat.reduceLeDiff, Nat.reduceSub, reduceCtorEq, reduceIte, Int.reduceToNat, beq_self_eq_true, Bool.and_self]; try simp) ?_)
    intro k hk
    refine vwp_seq_k fun Nad hNad => vreg tt_ok hF rfl ?_; simp only [go_sem, Int.reduceEq, Int.reduceNe, Int.reduceLT, Int.reduceLE, Nat.reduceEqDiff, Nat.reduceAdd, Nat.reduceMul, Nat.reduceLT, Nat.reduceLeDiff, Nat.reduceSub, reduceCtorEq, reduceIte, Int.reduceToNat, beq_self_eq_true, Bool.and_self]
    refine hNad _ (VWp.keep [0,4,11,15,174,175,176,177] [4,11,132,174,1000000] ?_); simp only [go_sem, Int.reduceEq, Int.reduceNe, Int.reduceLT, Int.reduceLE, Nat.reduceEqDiff, Nat.reduceAdd, Nat.reduceMul, Nat.reduceLT, Nat.reduceLeDiff, Nat.reduceSub, reduceCtorEq, reduceIte, Int.reduceToNat, beq_self_eq_true, Bool.and_self]
    refine vwp_seq_k fun Nae hNae => ?_
    refine vif rfl ⟨fun ht => ?_, fun hf => ?_⟩
    · have hlt : k < 4 := by have := of_decide_eq_true ht; omega
      obtain ⟨a, e, w1, w2, w3, w4, w5⟩ := hw k hlt
      refine vwp_skip (hNae _ ?_)
      refine vwp_seq_k fun Naf hNaf => ?_
      refine vwp_block ?_
      refine vwp_seq_k fun Nag hNag => vreg tt_ok hF rfl ?_; simp only [go_sem, Int.reduceEq, Int.reduceNe, Int.reduceLT, Int.reduceLE, Nat.reduceEqDiff, Nat.reduceAdd, Nat.reduceMul, Nat.reduceLT, Nat.reduceLeDiff, Nat.reduceSub, reduceCtorEq, reduceIte, Int.reduceToNat, beq_self_eq_true, Bool.and_self]
      simp only [w1, List.length_map, Int.toNat_natCast, go_sem, Int.reduceEq, Int.reduceNe, Int.reduceLT, Int.reduceLE, Nat.reduceEqDiff, Nat.reduceAdd, Nat.reduceMul, Nat.reduceLT, Nat.reduceLeDiff, Nat.reduceSub, reduceCtorEq, reduceIte, Int.reduceToNat, beq_self_eq_true, Bool.and_self]
      refine ⟨⟨by omega, by omega⟩, ?_⟩
      try simp only [w1, Int.toNat_natCast, go_sem, Int.reduceEq, Int.reduceNe, Int.reduceLT, Int.reduceLE, Nat.reduceEqDiff, Nat.reduceAdd, Nat.reduceMul, Nat.reduceLT, Nat.reduceLeDiff, Nat.reduceSub, reduceCtorEq, reduceIte, Int.reduceToNat, beq_self_eq_true, Bool.and_self]
      refine hNag _ (VWp.keep [0,4,11,15,16,17,174,175,176] [4,11,132,174,1000000] ?_); simp only [go_sem, Int.reduceEq, Int.reduceNe, Int.reduceLT, Int.reduceLE, Nat.reduceEqDiff, Nat.reduceAdd, Nat.reduceMul, Nat.reduceLT, Nat.reduceLeDiff, Nat.reduceSub, reduceCtorEq, reduceIte, Int.reduceToNat, beq_self_eq_true, Bool.and_self]
      have heq := Equal_same e w3
      unfold u8V at heq
      refine vwp_seq_k fun Nah hNah => vregd tt_ok mixed hF rfl (by kernel_rfl) (by kernel_rfl) ?_; simp only [go_sem, Int.reduceEq, Int.reduceNe, Int.reduceLT, Int.reduceLE, Nat.reduceEqDiff, Nat.reduceAdd, Nat.reduceMul, Nat.reduceLT, Nat.reduceLeDiff, Nat.reduceSub, reduceCtorEq, reduceIte, Int.reduceToNat, beq_self_eq_true, Bool.and_self]
      refine ⟨⟨by omega, by omega⟩, by rw [w4]; exact (by decide : 1 < 3), ⟨by omega, by rw [List.length_append]; omega⟩, by rw [w5]; exact (by decide : 1 < 3), ?_⟩
      simp only [w4, w5, Int.toNat_natCast, go_sem, Int.reduceEq, Int.reduceNe, Int.reduceLT, Int.reduceLE, Nat.reduceEqDiff, Nat.reduceAdd, Nat.reduceMul, Nat.reduceLT, Nat.reduceLeDiff, Nat.reduceSub, reduceCtorEq, reduceIte, Int.reduceToNat, beq_self_eq_true, Bool.and_self]
      refine .inl ⟨_, heq, ?_⟩; try simp only [go_sem, Int.reduceEq, Int.reduceNe, Int.reduceLT, Int.reduceLE, Nat.reduceEqDiff, Nat.reduceAdd, Nat.reduceMul, Nat.reduceLT, Nat.reduceLeDiff, Nat.reduceSub, reduceCtorEq, reduceIte, Int.reduceToNat, beq_self_eq_true, Bool.and_self]
      refine hNah _ (VWp.keep [0,4,11,15,174,175,176,195] [4,11,132,174,1000000] ?_); simp only [go_sem, Int.reduceEq, Int.reduceNe, Int.reduceLT, Int.reduceLE, Nat.reduceEqDiff, Nat.reduceAdd, Nat.reduceMul, Nat.reduceLT, Nat.reduceLeDiff, Nat.reduceSub, reduceCtorEq, reduceIte, Int.reduceToNat, beq_self_eq_true, Bool.and_self]
      refine vif rfl ⟨(fun ht => by cases ht), fun hf => ?_⟩
      refine vwp_skip (hNaf _ ?_)
      refine vreg tt_ok hF rfl ?_; simp only [go_sem, Int.reduceEq, Int.reduceNe, Int.reduceLT, Int.reduceLE, Nat.reduceEqDiff, Nat.reduceAdd, Nat.reduceMul, Nat.reduceLT, Nat.reduceLeDiff, Nat.reduceSub, reduceCtorEq, reduceIte, Int.reduceToNat, beq_self_eq_true, Bool.and_self]
      rw [wrap_i64 (by omega) (by omega)]
      exact ⟨k + 1, by omega, by omega, by first | (simp; done) | (simp; omega)⟩
    · refine vwp_exit ?_
      simp only [go_sem, Int.reduceEq, Int.reduceNe, Int.reduceLT, Int.reduceLE, Nat.reduceEqDiff, Nat.reduceAdd, Nat.reduceMul, Nat.reduceLT, Nat.reduceLeDiff, Nat.reduceSub, reduceCtorEq, reduceIte, Int.reduceToNat, beq_self_eq_true, Bool.and_self]
      refine hNab _ (VWp.keepR [4,11] [4,11,1000000] tt_ok hF rfl fun Naj hNaj => ?_); simp only [go_sem, Int.reduceEq, Int.reduceNe, Int.reduceLT, Int.reduceLE, Nat.reduceEqDiff, Nat.reduceAdd, Nat.reduceMul, Nat.reduceLT, Nat.reduceLeDiff, Nat.reduceSub, reduceCtorEq, reduceIte, Int.reduceToNat, beq_self_eq_true, Bool.and_self]
      refine hNaj _ (VWp.keep [4,5] [4,1000000] ?_); simp only [go_sem, Int.reduceEq, Int.reduceNe, Int.reduceLT, Int.reduceLE, Nat.reduceEqDiff, Nat.reduceAdd, Nat.reduceMul, Nat.reduceLT, Nat.reduceLeDiff, Nat.reduceSub, reduceCtorEq, reduceIte, Int.reduceToNat, beq_self_eq_true, Bool.and_self]
      refine vwp_ret ?_
      simp only [go_sem, Int.reduceEq, Int.reduceNe, Int.reduceLT, Int.reduceLE, Nat.reduceEqDiff, Nat.reduceAdd, Nat.reduceMul, Nat.reduceLT, Nat.reduceLeDiff, Nat.reduceSub, reduceCtorEq, reduceIte, Int.reduceToNat, beq_self_eq_true, Bool.and_self]
      first | exact LeV.refl _ | exact ⟨LeV.refl _, by simp⟩
end Go.Proofs.YtjedikaidbobdaaGreatDoor

/- Layer 26: a written tape is read. -/
-- SIMP: beq_self_eq_true, Bool.and_self
namespace Go.Proofs.YtjedikaidbobdaaGreatDoor
open Go.RowKit
open Go.Lib (decDigits)
set_option linter.unusedVariables false
set_option linter.unusedSimpArgs false
theorem part_no32 : ∀ n < 256, (partC (UInt8.ofNat n) || UInt8.ofNat n == 46) = true → UInt8.ofNat n ≠ 32 := by decide +kernel
theorem name_last {s : Bs} (h : nameOk s = true) : s = [] ∨ s.getLast? ≠ some 32 := by
  unfold nameOk at h
  rw [Bool.and_eq_true] at h
  have h2 : (splitAtC 46 s).all (fun p => p.all partC) = true := by
    rw [List.all_eq_true] at h ⊢
    intro p hp
    have := h.2 p hp
    unfold partOk at this
    rw [Bool.and_eq_true] at this
    exact this.2
  have h3 := split_chars s h2
  rw [List.all_eq_true] at h3
  refine .inr fun q => ?_
  have := part_no32 (32 : UInt8).toNat (by decide)
  exact this (h3 32 (List.mem_of_getLast? q)) rfl
theorem ser_no32 : ∀ n < 256, capC (UInt8.ofNat n) = true → UInt8.ofNat n ≠ 32 := by decide +kernel
theorem ser_last {s : Bs} (h : serT s = true) : s = [] ∨ s.getLast? ≠ some 32 := by
  unfold serT at h
  simp only [Bool.and_eq_true] at h
  refine .inr fun q => ?_
  exact ser_no32 (32 : UInt8).toNat (by decide) (List.all_eq_true.1 h.2 32 (List.mem_of_getLast? q)) rfl
theorem file_groups {n : Nat} {f : FilT} (h : (bksE n f).2 = 0) (hr : f.recs.length ≤ 4096) : ∃ gs : List (List Tb), filOk f = true ∧ (bksE n f).1 = blocksT n f (gs.map (encG f.dcb)) ∧ f.recs = gs.flatten ∧ (∀ g ∈ gs, GrpT f.dcb g) ∧ gs.flatten.length ≤ 4096 := by
  by_cases c1 : filOk f = true
  · have c3 : chkT f.dcb = true := by unfold filOk at c1; simp only [Bool.and_eq_true] at c1; exact c1.2
    unfold bksE at h ⊢
    rw [if_pos c1] at h ⊢
    by_cases c2 : ∀ r ∈ f.recs, fitT f.dcb r.length = true
    · obtain ⟨gs, e1, e2, e3⟩ := blk_groups c3 c2
      have e := blkE_ok c3 hr c2
      rw [e, if_pos rfl, e1]
      exact ⟨gs, c1, rfl, e3.symm, e2, by rw [e3]; exact hr⟩
    · have ⟨r, hr1, hr2⟩ : ∃ r ∈ f.recs, fitT f.dcb r.length = false := by
        rw [Classical.not_forall] at c2
        obtain ⟨r, c2⟩ := c2
        rw [Classical.not_imp] at c2
        exact ⟨r, c2.1, by simpa using c2.2⟩
      have e := blkE_bad c3 hr hr1 hr2
      rw [e] at h
      simp at h
  · unfold bksE at h
    rw [if_neg c1] at h
    simp at h
theorem errB_zero : ∀ (l : List FilT) (n : Nat), errB n l = 0 → ∀ k (hk : k < l.length), (bksE (n + k) l[k]).2 = 0
  | [], n, _, k, hk => by cases hk
  | f :: l, n, h, k, hk => by
    unfold errB at h
    by_cases q : (bksE n f).2 = 0
    · rw [if_pos q] at h
      match k, hk with
      | 0, _ => exact q
      | k + 1, hk =>
        have := errB_zero l (n + 1) h k (by simpa using hk)
        rw [show n + (k + 1) = n + 1 + k by omega]
        simpa using this
    · rw [if_neg q] at h; exact absurd h q
def posT (l : List FilT) (k : Nat) : Nat := 1 + (allB 0 (l.take k)).length
def tapR (serial : Tb) (l : List FilT) (rest : List TbT) : List TbT := volT serial :: allB 0 l ++ rest
def tapT (serial : Tb) (l : List FilT) : List TbT := tapR serial l [mrkT]
theorem tap_cut (serial : Tb) (l : List FilT) (rest : List TbT) (k : Nat) (hk : k < l.length) : tapR serial l rest = (volT serial :: allB 0 (l.take k)) ++ (bksE k l[k]).1 ++ (allB (k + 1) (l.drop (k + 1)) ++ rest) := by
  have e : l = l.take k ++ l[k] :: l.drop (k + 1) := by rw [← List.drop_eq_getElem_cons hk, List.take_append_drop]
  have e2 : allB 0 l = allB 0 (l.take k) ++ ((bksE k l[k]).1 ++ allB (k + 1) (l.drop (k + 1))) := by
    conv => lhs; rw [e]
    rw [allB_app, List.length_take, Nat.zero_add, Nat.min_eq_left (by omega)]
    rfl
  unfold tapR
  rw [e2]
  simp
theorem pos_step (l : List FilT) (k : Nat) (hk : k < l.length) : posT l (k + 1) = posT l k + (bksE k l[k]).1.length := by
  unfold posT
  rw [List.take_succ_eq_append_getElem hk, allB_app, List.length_append, List.length_take, Nat.zero_add, Nat.min_eq_left (by omega)]
  show _ = _ + (bksE k l[k]).1.length
  have : (allB k [l[k]]).length = (bksE k l[k]).1.length := by show ((bksE k l[k]).1 ++ []).length = _; rw [List.append_nil]
  omega
theorem blocks_len (n : Nat) (f : FilT) (data : List Tb) : (blocksT n f data).length = data.length + 7 := by
  unfold blocksT pairT; simp
theorem pos_last (serial : Tb) (l : List FilT) : (tapT serial l)[posT l l.length]? = some mrkT ∧ (tapT serial l).length = posT l l.length + 1 := by
  unfold tapT tapR posT
  rw [List.take_length]
  refine ⟨?_, by simp; omega⟩
  rw [List.getElem?_append_right (by simp; omega)]
  simp [show 1 + (allB 0 l).length - ((allB 0 l).length + 1) = 0 by omega]
theorem file_at (serial : Tb) (l : List FilT) (rest : List TbT) (he : errB 0 l = 0) (hrec : ∀ f ∈ l, f.recs.length ≤ 4096) (hB : (tapR serial l rest).length ≤ 1000000) (k : Nat) (hk : k < l.length) (hn : k < 9999) :
    SpecB Tryz.prog 35 [.ptr 1000000 0, .int .i64 (k : Int)] [(1000000, scnO (tapR serial l rest) (posT l k))] (.tup [filV l[k], .bool true]) [(1000000, scnO (tapR serial l rest) (posT l (k + 1)))] ∧
      (∃ b, (tapR serial l rest)[posT l k]? = some (labT b)) := by
  have h0 := errB_zero l 0 he k hk
  rw [Nat.zero_add] at h0
  obtain ⟨gs, c1, c2, c3, c4, c5⟩ := file_groups h0 (hrec _ (List.getElem_mem hk))
  have hc := tap_cut serial l rest k hk
  rw [c2] at hc
  have hL := lie_of (volT serial :: allB 0 (l.take k)) (allB (k + 1) (l.drop (k + 1)) ++ rest) k l[k] (gs.map (encG l[k].dcb))
  have hp : (volT serial :: allB 0 (l.take k)).length = posT l k := by unfold posT; simp; omega
  rw [hp, ← hc] at hL
  have hps := pos_step l k hk
  rw [c2, blocks_len, List.length_map] at hps
  have hname : nameOk l[k].name = true := by unfold filOk at c1; simp only [Bool.and_eq_true] at c1; exact c1.1.1
  have := file_B (tapR serial l rest) (posT l k) k l[k] gs c1 c3 c4 c5 (name_last hname) hn (by omega) hL
  rw [show posT l k + 7 + gs.length = posT l (k + 1) by omega] at this
  exact ⟨this, _, hL.p0⟩
set_option maxHeartbeats 8000000 in
set_option maxRecDepth 4000 in
theorem volume_B (serial : Tb) (hs : serT serial = true) (B : List TbT) (hB : B.length ≤ 1000000) (hb : B[0]? = some (volT serial)) :
    SpecB Tryz.prog 34 [.ptr 1000000 0] [(1000000, scnO B 0)] (.tup [.str serial, .bool true]) [(1000000, scnO B 1)] := by
  obtain ⟨st, sl⟩ := ser_txt hs
  have ht := take_lab [86, 79, 76, 49] ([86, 79, 76, 49] ++ serial) B 0 1 (by omega) hb (by rw [txt_app, st]; rfl) (by simp; omega) rfl rfl
  have hp : padB ([86, 79, 76, 49] ++ serial) 80 = [86, 79, 76, 49] ++ padB serial 76 := by
    unfold padB; simp [show 80 - (serial.length + 4) = 76 - serial.length by omega]
  have htp := TrimPrefix_spec ([86, 79, 76, 49] ++ padB serial 76) [86, 79, 76, 49]
  rw [if_pos (show List.isPrefixOf [86, 79, 76, 49] ([86, 79, 76, 49] ++ padB serial 76) = true by rfl)] at htp
  change Spec _ _ _ (.str (padB serial 76)) at htp
  have htr := TrimRight_spec (padB serial 76) (by rw [padB_len _ _ (by omega)]; omega)
  rw [trim_pad 76 (ser_last hs)] at htr
  have hser := Serial_spec serial
  rw [hs] at hser
  rw [hp] at ht
  generalize [86, 79, 76, 49] ++ padB serial 76 = T at *
  unfold scnO at ht ⊢
  refine specB_of tt_ok Tryz.func34 rfl (by decide) Tryz.ntmps34 (congrArg Array.toList Tryz.results34) (by simp) (by decide) rfl (by simp only [go_sem, Int.reduceEq, Int.reduceNe, Int.reduceLT, Int.reduceLE, Nat.reduceEqDiff, Nat.reduceAdd, Nat.reduceMul, Nat.reduceLT, Nat.reduceLeDiff, Nat.reduceSub, reduceCtorEq, reduceIte, Int.reduceToNat, beq_self_eq_true, Bool.and_self]) (fun F hF => ?_)
  refine vwp_seq_k fun Na hNa => vreg tt_ok hF rfl ?_; simp only [go_sem, Int.reduceEq, Int.reduceNe, Int.reduceLT, Int.reduceLE, Nat.reduceEqDiff, Nat.reduceAdd, Nat.reduceMul, Nat.reduceLT, Nat.reduceLeDiff, Nat.reduceSub, reduceCtorEq, reduceIte, Int.reduceToNat, beq_self_eq_true, Bool.and_self]
  refine hNa _ (VWp.keepR [0] [1000000] tt_ok hF rfl fun Nb hNb => ?_); simp only [go_sem, Int.reduceEq, Int.reduceNe, Int.reduceLT, Int.reduceLE, Nat.reduceEqDiff, Nat.reduceAdd, Nat.reduceMul, Nat.reduceLT, Nat.reduceLeDiff, Nat.reduceSub, reduceCtorEq, reduceIte, Int.reduceToNat, beq_self_eq_true, Bool.and_self]
  refine .inr (bxo [(1000000, 1000000)] rfl ?_); simp only [go_sem, Int.reduceEq, Int.reduceNe, Int.reduceLT, Int.reduceLE, Nat.reduceEqDiff, Nat.reduceAdd, Nat.reduceMul, Nat.reduceLT, Nat.reduceLeDiff, Nat.reduceSub, reduceCtorEq, reduceIte, Int.reduceToNat, beq_self_eq_true, Bool.and_self]; refine ⟨_, _, ht, ?_⟩; try simp only [go_sem, Int.reduceEq, Int.reduceNe, Int.reduceLT, Int.reduceLE, Nat.reduceEqDiff, Nat.reduceAdd, Nat.reduceMul, Nat.reduceLT, Nat.reduceLeDiff, Nat.reduceSub, reduceCtorEq, reduceIte, Int.reduceToNat, beq_self_eq_true, Bool.and_self]
  refine hNb _ (VWp.keepR [4,5] [1000000] tt_ok hF rfl fun Nc hNc => ?_); simp only [go_sem, Int.reduceEq, Int.reduceNe, Int.reduceLT, Int.reduceLE, Nat.reduceEqDiff, Nat.reduceAdd, Nat.reduceMul, Nat.reduceLT, Nat.reduceLeDiff, Nat.reduceSub, reduceCtorEq, reduceIte, Int.reduceToNat, beq_self_eq_true, Bool.and_self]
  refine .inl ⟨_, htp, ?_⟩; try simp only [go_sem, Int.reduceEq, Int.reduceNe, Int.reduceLT, Int.reduceLE, Nat.reduceEqDiff, Nat.reduceAdd, Nat.reduceMul, Nat.reduceLT, Nat.reduceLeDiff, Nat.reduceSub, reduceCtorEq, reduceIte, Int.reduceToNat, beq_self_eq_true, Bool.and_self]
  refine .inl ⟨_, htr, ?_⟩; try simp only [go_sem, Int.reduceEq, Int.reduceNe, Int.reduceLT, Int.reduceLE, Nat.reduceEqDiff, Nat.reduceAdd, Nat.reduceMul, Nat.reduceLT, Nat.reduceLeDiff, Nat.reduceSub, reduceCtorEq, reduceIte, Int.reduceToNat, beq_self_eq_true, Bool.and_self]
  refine hNc _ (VWp.keepR [5,6] [1000000] tt_ok hF rfl fun Nd hNd => ?_); simp only [go_sem, Int.reduceEq, Int.reduceNe, Int.reduceLT, Int.reduceLE, Nat.reduceEqDiff, Nat.reduceAdd, Nat.reduceMul, Nat.reduceLT, Nat.reduceLeDiff, Nat.reduceSub, reduceCtorEq, reduceIte, Int.reduceToNat, beq_self_eq_true, Bool.and_self]
  refine .inl ⟨_, hser, ?_⟩; try simp only [go_sem, Int.reduceEq, Int.reduceNe, Int.reduceLT, Int.reduceLE, Nat.reduceEqDiff, Nat.reduceAdd, Nat.reduceMul, Nat.reduceLT, Nat.reduceLeDiff, Nat.reduceSub, reduceCtorEq, reduceIte, Int.reduceToNat, beq_self_eq_true, Bool.and_self]
  refine hNd _ (VWp.keep [2,3] [1000000] ?_); simp only [go_sem, Int.reduceEq, Int.reduceNe, Int.reduceLT, Int.reduceLE, Nat.reduceEqDiff, Nat.reduceAdd, Nat.reduceMul, Nat.reduceLT, Nat.reduceLeDiff, Nat.reduceSub, reduceCtorEq, reduceIte, Int.reduceToNat, beq_self_eq_true, Bool.and_self]
  refine vwp_ret ?_
  simp only [go_sem, Int.reduceEq, Int.reduceNe, Int.reduceLT, Int.reduceLE, Nat.reduceEqDiff, Nat.reduceAdd, Nat.reduceMul, Nat.reduceLT, Nat.reduceLeDiff, Nat.reduceSub, reduceCtorEq, reduceIte, Int.reduceToNat, beq_self_eq_true, Bool.and_self]
  first | exact LeV.refl _ | exact ⟨LeV.refl _, by simp⟩
end Go.Proofs.YtjedikaidbobdaaGreatDoor
