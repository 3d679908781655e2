import Derived.Outline
import Derived.Test.YtjedikaidbobdaaGreatDoorUD
/- Layer 26: the blocks of a file, a tape that is written. -/
-- SIMP: beq_self_eq_true, Bool.and_self
namespace Go.Proofs.YtjedikaidbobdaaGreatDoor
open Go.RowKit
set_option linter.unusedVariables false
set_option linter.unusedSimpArgs false
theorem split_chars : ∀ s : Bs, (splitAtC 46 s).all (fun p => p.all partC) = true → s.all (fun c => partC c || c == 46) = true
  | [], _ => rfl
  | c :: t, h => by
    rw [splitAtC] at h
    rw [List.all_cons, Bool.and_eq_true]
    split at h
    · rename_i e
      rw [List.all_cons, Bool.and_eq_true] at h
      exact ⟨by rw [e]; simp, split_chars t h.2⟩
    · rename_i e
      have hne := splitAtC_ne 46 t
      cases hs : splitAtC 46 t with
      | nil => exact absurd hs hne
      | cons p ps =>
        rw [hs] at h
        simp only [List.headD_cons, List.tail_cons, List.all_cons, Bool.and_eq_true] at h
        exact ⟨by rw [h.1.1]; rfl, split_chars t (by rw [hs, List.all_cons, Bool.and_eq_true]; exact ⟨h.1.2, h.2⟩)⟩
theorem part_okC : ∀ n < 256, (partC (UInt8.ofNat n) || UInt8.ofNat n == 46) = true → okC (UInt8.ofNat n) = true := by decide +kernel
theorem name_txt {s : Bs} (h : nameOk s = true) : txtT s = true := by
  unfold nameOk at h
  rw [Bool.and_eq_true] at h
  have h2 : (splitAtC 46 s).all (fun p => p.all partC) = true := by
    rw [List.all_eq_true] at h ⊢
    intro p hp
    have := h.2 p hp
    unfold partOk at this
    rw [Bool.and_eq_true] at this
    exact this.2
  have h3 := split_chars s h2
  unfold txtT
  rw [List.all_eq_true] at h3 ⊢
  intro c hc
  have := part_okC c.toNat c.toNat_lt
  rw [UInt8.ofNat_toNat] at this
  exact this (h3 c hc)
theorem name_len {s : Bs} (h : nameOk s = true) : s.length ≤ 44 := by
  unfold nameOk at h
  rw [Bool.and_eq_true] at h
  exact of_decide_eq_true h.1
theorem chk_lrecl {d : DcbT} (h : chkT d = true) : 0 ≤ d.lrecl ∧ d.lrecl ≤ 1024 := by
  obtain ⟨_, _, b1, b2, hl, _⟩ := chk_parts h
  by_cases f1 : d.fmt = 1
  · rw [lens1 f1] at hl; simp only [Bool.and_eq_true, decide_eq_true_eq] at hl; omega
  · by_cases f2 : d.fmt = 2
    · rw [lens2 f2] at hl; simp only [Bool.and_eq_true, decide_eq_true_eq] at hl; omega
    · by_cases f3 : d.fmt = 3
      · rw [lens3 f3] at hl; simp only [Bool.and_eq_true, decide_eq_true_eq] at hl; omega
      · rw [lens4 f1 f2 f3] at hl; cases hl
theorem lab_ok {f : FilT} (h1 : nameOk f.name = true) (h2 : chkT f.dcb = true) : LabOk f := by
  obtain ⟨_, _, b1, b2, _, _⟩ := chk_parts h2
  obtain ⟨r0, r1⟩ := chk_lrecl h2
  exact ⟨name_txt h1, name_len h1, by omega, b2, r0, r1⟩
theorem Block_any (d : DcbT) (h : chkT d = true) (l : List Tb) (hl : l.length ≤ 4096) :
    Spec Tryz.prog 41 [dcbV d, .sl 1 (l.map blkR)] (.tup [.sl 1 ((blkE d l).1.map blkR), .int .i64 (blkE d l).2]) := by
  by_cases hd : d.fmt = 2
  · exact Block_var d h hd l hl
  · exact Block_fix d h hd l hl
def filOk (f : FilT) : Bool := nameOk f.name && decide (f.dcb.org = 1) && chkT f.dcb
def datT (d : Tb) : TbT := ⟨false, d, false⟩
def hdrS : Tb := [72, 68, 82]
def eofS : Tb := [69, 79, 70]
def blocksT (n : Nat) (f : FilT) (data : List Tb) : List TbT := pairT hdrS n 0 f ++ [mrkT] ++ data.map datT ++ [mrkT] ++ pairT eofS n data.length f ++ [mrkT]
def bksE (n : Nat) (f : FilT) : List TbT × Int := if filOk f = true then (if (blkE f.dcb f.recs).2 = 0 then (blocksT n f (blkE f.dcb f.recs).1, 0) else ([], (blkE f.dcb f.recs).2)) else ([], 5)
theorem flush_len (d : DcbT) (z : List Tb × Tb) : (flushT d z).1.length ≤ z.1.length + 1 := by
  unfold flushT; split
  · omega
  · simp
theorem step_len (d : DcbT) (z : List Tb × Tb) (r : Tb) : (stepT d z r).1.length ≤ z.1.length + 1 := by
  unfold stepT
  simp only
  split
  · exact flush_len d z
  · omega
theorem fold_len (d : DcbT) : ∀ (l : List Tb) (z : List Tb × Tb), (l.foldl (stepT d) z).1.length ≤ z.1.length + l.length
  | [], z => Nat.le_refl _
  | r :: l, z => by
    rw [List.foldl_cons, List.length_cons]
    have := fold_len d l (stepT d z r)
    have := step_len d z r
    omega
theorem blkE_len (d : DcbT) (l : List Tb) : (blkE d l).1.length ≤ 5000 := by
  unfold blkE
  split
  · split
    · rename_i hl
      split
      · show (flushT d (l.foldl (stepT d) ([], []))).1.length ≤ 5000
        have h1 := flush_len d (l.foldl (stepT d) ([], []))
        have h2 := fold_len d l ([], [])
        simp only [List.length_nil] at h2
        omega
      · simp
    · simp
  · simp
set_option maxHeartbeats 16000000 in
set_option maxRecDepth 4000 in
theorem blocks_spec (n : Nat) (hn : n < 9999) (f : FilT) (hl : f.recs.length ≤ 4096) (hnm : f.name.length ≤ 1000000) : Spec Tryz.prog 26 [.int .i64 (n : Int), filV f] (.tup [.sl 3 ((bksE n f).1.map tbC), .int .i64 (bksE n f).2]) := by
  have hname := isName_spec f.name hnm
  by_cases c1 : nameOk f.name = true
  · rw [c1] at hname
    by_cases c2 : f.dcb.org = 1
    · have hchk := Check_spec f.dcb
      by_cases c3 : chkT f.dcb = true
      · have e0 : chkE f.dcb = 0 := by unfold chkE; rw [if_pos c3]
        have efil : filOk f = true := by unfold filOk; rw [c1, decide_eq_true c2, c3]; rfl
        have hblk := Block_any f.dcb c3 f.recs hl
        have hlen := blkE_len f.dcb f.recs
        have hlab := lab_ok c1 c3
        have eb : bksE n f = if (blkE f.dcb f.recs).2 = 0 then (blocksT n f (blkE f.dcb f.recs).1, 0) else ([], (blkE f.dcb f.recs).2) := by unfold bksE; rw [if_pos efil]
        rw [e0] at hchk
        rw [eb]
        obtain ⟨B, hB⟩ : ∃ B, blkE f.dcb f.recs = B := ⟨_, rfl⟩
        rw [hB] at hblk hlen ⊢
        obtain ⟨data, e⟩ := B
        simp only at hblk hlen ⊢
        have hp1 : SpecB Tryz.prog 42 [.str hdrS, .int .i64 (n : Int), .int .i64 0, filV f] [] (.own 62 2) [(62, .arr 3 48 ((pairT hdrS n 0 f).map tbC))] := pair_specB hdrS n 0 f hlab (by decide) rfl hn (by omega)
        have hp2 := pair_specB eofS n data.length f hlab (by decide) rfl hn (by omega)
        have hmk := mark_spec
        simp only [tbC, mrkT, u8V, List.map_nil] at hmk
        unfold filV filC at hp1 hp2 ⊢
        unfold dcbV dcbC at hchk hblk
        simp only [hdrS, eofS] at hp1 hp2
        have e2 : decide (f.dcb.org = 1) = true := decide_eq_true c2
        refine spec_of tt_ok Tryz.func26 rfl (by decide) Tryz.ntmps26 (congrArg Array.toList Tryz.results26) (by simp) (by decide) rfl rfl (fun F hF => ?_)
        refine vwp_seq_k fun Na hNa => vreg tt_ok hF rfl ?_; simp only [go_sem, Int.reduceEq, Int.reduceNe, Int.reduceLT, Int.reduceLE, Nat.reduceEqDiff, Nat.reduceAdd, Nat.reduceMul, Nat.reduceLT, Nat.reduceLeDiff, Nat.reduceSub, reduceCtorEq, reduceIte, Int.reduceToNat, beq_self_eq_true, Bool.and_self]
        refine hNa _ (VWp.keep [0,3] [3] ?_); simp only [go_sem, Int.reduceEq, Int.reduceNe, Int.reduceLT, Int.reduceLE, Nat.reduceEqDiff, Nat.reduceAdd, Nat.reduceMul, Nat.reduceLT, Nat.reduceLeDiff, Nat.reduceSub, reduceCtorEq, reduceIte, Int.reduceToNat, beq_self_eq_true, Bool.and_self]
        refine vwp_seq_k fun Nb hNb => ?_
        refine vwp_seq_k fun Nc hNc => vreg tt_ok hF rfl ?_; simp only [go_sem, Int.reduceEq, Int.reduceNe, Int.reduceLT, Int.reduceLE, Nat.reduceEqDiff, Nat.reduceAdd, Nat.reduceMul, Nat.reduceLT, Nat.reduceLeDiff, Nat.reduceSub, reduceCtorEq, reduceIte, Int.reduceToNat, beq_self_eq_true, Bool.and_self]
        refine .inl ⟨_, hname, ?_⟩; try simp only [go_sem, Int.reduceEq, Int.reduceNe, Int.reduceLT, Int.reduceLE, Nat.reduceEqDiff, Nat.reduceAdd, Nat.reduceMul, Nat.reduceLT, Nat.reduceLeDiff, Nat.reduceSub, reduceCtorEq, reduceIte, Int.reduceToNat, beq_self_eq_true, Bool.and_self]
        try simp only [e2, decide_true, Bool.not_true, go_sem, Int.reduceEq, Int.reduceNe, Int.reduceLT, Int.reduceLE, Nat.reduceEqDiff, Nat.reduceAdd, Nat.reduceMul, Nat.reduceLT, Nat.reduceLeDiff, Nat.reduceSub, reduceCtorEq, reduceIte, Int.reduceToNat, beq_self_eq_true, Bool.and_self]
        refine .inl ⟨_, hchk, ?_⟩; try simp only [go_sem, Int.reduceEq, Int.reduceNe, Int.reduceLT, Int.reduceLE, Nat.reduceEqDiff, Nat.reduceAdd, Nat.reduceMul, Nat.reduceLT, Nat.reduceLeDiff, Nat.reduceSub, reduceCtorEq, reduceIte, Int.reduceToNat, beq_self_eq_true, Bool.and_self]
        refine hNc _ (VWp.keep [0,3,26] [3] ?_); simp only [go_sem, Int.reduceEq, Int.reduceNe, Int.reduceLT, Int.reduceLE, Nat.reduceEqDiff, Nat.reduceAdd, Nat.reduceMul, Nat.reduceLT, Nat.reduceLeDiff, Nat.reduceSub, reduceCtorEq, reduceIte, Int.reduceToNat, beq_self_eq_true, Bool.and_self]
        refine vif rfl ⟨(fun ht => by cases ht), fun hf => ?_⟩
        refine vwp_skip (hNb _ ?_)
        refine vwp_seq_k fun Ne hNe => vreg tt_ok hF rfl ?_; simp only [go_sem, Int.reduceEq, Int.reduceNe, Int.reduceLT, Int.reduceLE, Nat.reduceEqDiff, Nat.reduceAdd, Nat.reduceMul, Nat.reduceLT, Nat.reduceLeDiff, Nat.reduceSub, reduceCtorEq, reduceIte, Int.reduceToNat, beq_self_eq_true, Bool.and_self]
        refine .inl ⟨_, hblk, ?_⟩; try simp only [go_sem, Int.reduceEq, Int.reduceNe, Int.reduceLT, Int.reduceLE, Nat.reduceEqDiff, Nat.reduceAdd, Nat.reduceMul, Nat.reduceLT, Nat.reduceLeDiff, Nat.reduceSub, reduceCtorEq, reduceIte, Int.reduceToNat, beq_self_eq_true, Bool.and_self]
        refine hNe _ (VWp.keep [0,3,6,7] [3] ?_); simp only [go_sem, Int.reduceEq, Int.reduceNe, Int.reduceLT, Int.reduceLE, Nat.reduceEqDiff, Nat.reduceAdd, Nat.reduceMul, Nat.reduceLT, Nat.reduceLeDiff, Nat.reduceSub, reduceCtorEq, reduceIte, Int.reduceToNat, beq_self_eq_true, Bool.and_self]
        refine vwp_seq_k fun Nf hNf => ?_
        refine vwp_seq_k fun Ng hNg => vreg tt_ok hF rfl ?_; simp only [go_sem, Int.reduceEq, Int.reduceNe, Int.reduceLT, Int.reduceLE, Nat.reduceEqDiff, Nat.reduceAdd, Nat.reduceMul, Nat.reduceLT, Nat.reduceLeDiff, Nat.reduceSub, reduceCtorEq, reduceIte, Int.reduceToNat, beq_self_eq_true, Bool.and_self]
        refine hNg _ (VWp.keep [0,3,6,7,36] [3] ?_); simp only [go_sem, Int.reduceEq, Int.reduceNe, Int.reduceLT, Int.reduceLE, Nat.reduceEqDiff, Nat.reduceAdd, Nat.reduceMul, Nat.reduceLT, Nat.reduceLeDiff, Nat.reduceSub, reduceCtorEq, reduceIte, Int.reduceToNat, beq_self_eq_true, Bool.and_self]
        refine vif rfl ⟨fun ht => ?_, fun hf => ?_⟩
        · have he : e ≠ 0 := by simpa using ht
          rw [if_neg he]
          refine vwp_seq_k fun Nh hNh => vreg tt_ok hF rfl ?_; simp only [go_sem, Int.reduceEq, Int.reduceNe, Int.reduceLT, Int.reduceLE, Nat.reduceEqDiff, Nat.reduceAdd, Nat.reduceMul, Nat.reduceLT, Nat.reduceLeDiff, Nat.reduceSub, reduceCtorEq, reduceIte, Int.reduceToNat, beq_self_eq_true, Bool.and_self]
          refine hNh _ (VWp.keep [4,5] [] ?_); simp only [go_sem, Int.reduceEq, Int.reduceNe, Int.reduceLT, Int.reduceLE, Nat.reduceEqDiff, Nat.reduceAdd, Nat.reduceMul, Nat.reduceLT, Nat.reduceLeDiff, Nat.reduceSub, reduceCtorEq, reduceIte, Int.reduceToNat, beq_self_eq_true, Bool.and_self]
          refine vwp_ret ?_
          simp only [go_sem, Int.reduceEq, Int.reduceNe, Int.reduceLT, Int.reduceLE, Nat.reduceEqDiff, Nat.reduceAdd, Nat.reduceMul, Nat.reduceLT, Nat.reduceLeDiff, Nat.reduceSub, reduceCtorEq, reduceIte, Int.reduceToNat, beq_self_eq_true, Bool.and_self]
          exact LeV.tup ⟨LeV.nil _, LeV.refl _, trivial⟩
        · have he : e = 0 := by simpa using hf
          refine vwp_skip (hNf _ ?_)
          rw [if_pos he]
          simp only [blocksT, hdrS, eofS, List.map_append]
          have q1 : ((pairT [72, 68, 82] n 0 f).map tbC).length = 2 := rfl
          have q2 : ((pairT [69, 79, 70] n data.length f).map tbC).length = 2 := rfl
          have s1 : ∀ r ∈ (pairT [69, 79, 70] n data.length f).map tbC, V.refsL r = [] := by intro r hr; obtain ⟨_, _, rfl⟩ := List.mem_map.1 hr; rfl
          generalize (pairT [72, 68, 82] n 0 f).map tbC = A1 at *
          generalize (pairT [69, 79, 70] n data.length f).map tbC = A2 at *
          refine vwp_seq_k fun Ni hNi => vreg tt_ok hF rfl ?_; simp only [go_sem, Int.reduceEq, Int.reduceNe, Int.reduceLT, Int.reduceLE, Nat.reduceEqDiff, Nat.reduceAdd, Nat.reduceMul, Nat.reduceLT, Nat.reduceLeDiff, Nat.reduceSub, reduceCtorEq, reduceIte, Int.reduceToNat, beq_self_eq_true, Bool.and_self]
          refine .inr (bxo [(62, 40)] rfl ?_); simp only [go_sem, Int.reduceEq, Int.reduceNe, Int.reduceLT, Int.reduceLE, Nat.reduceEqDiff, Nat.reduceAdd, Nat.reduceMul, Nat.reduceLT, Nat.reduceLeDiff, Nat.reduceSub, reduceCtorEq, reduceIte, Int.reduceToNat, beq_self_eq_true, Bool.and_self]; refine ⟨_, _, hp1, ?_⟩; try simp only [go_sem, Int.reduceEq, Int.reduceNe, Int.reduceLT, Int.reduceLE, Nat.reduceEqDiff, Nat.reduceAdd, Nat.reduceMul, Nat.reduceLT, Nat.reduceLeDiff, Nat.reduceSub, reduceCtorEq, reduceIte, Int.reduceToNat, beq_self_eq_true, Bool.and_self]
          refine .inl ⟨_, hmk, ?_⟩; try simp only [go_sem, Int.reduceEq, Int.reduceNe, Int.reduceLT, Int.reduceLE, Nat.reduceEqDiff, Nat.reduceAdd, Nat.reduceMul, Nat.reduceLT, Nat.reduceLeDiff, Nat.reduceSub, reduceCtorEq, reduceIte, Int.reduceToNat, beq_self_eq_true, Bool.and_self]
          refine ⟨⟨q1.symm, by omega⟩, ?_⟩
          obtain ⟨A, hA⟩ : ∃ A, A1 ++ [[V.bool true, V.sl 1 [], V.bool false]] = A := ⟨_, rfl⟩
          have hAl : A.length = 3 := by rw [← hA, List.length_append, q1]; rfl
          rw [hA]
          refine hNi _ (VWp.keep [0,3,6,8] [3,40] ?_); simp only [go_sem, Int.reduceEq, Int.reduceNe, Int.reduceLT, Int.reduceLE, Nat.reduceEqDiff, Nat.reduceAdd, Nat.reduceMul, Nat.reduceLT, Nat.reduceLeDiff, Nat.reduceSub, reduceCtorEq, reduceIte, Int.reduceToNat, beq_self_eq_true, Bool.and_self]
          refine vwp_seq_k fun Nj hNj => ?_
          refine vwp_seq_k fun Nk hNk => vreg tt_ok hF rfl ?_; simp only [go_sem, Int.reduceEq, Int.reduceNe, Int.reduceLT, Int.reduceLE, Nat.reduceEqDiff, Nat.reduceAdd, Nat.reduceMul, Nat.reduceLT, Nat.reduceLeDiff, Nat.reduceSub, reduceCtorEq, reduceIte, Int.reduceToNat, beq_self_eq_true, Bool.and_self]
          refine hNk _ (VWp.keep [0,3,6,8,44,45,46] [3,40] ?_); simp only [go_sem, Int.reduceEq, Int.reduceNe, Int.reduceLT, Int.reduceLE, Nat.reduceEqDiff, Nat.reduceAdd, Nat.reduceMul, Nat.reduceLT, Nat.reduceLeDiff, Nat.reduceSub, reduceCtorEq, reduceIte, Int.reduceToNat, beq_self_eq_true, Bool.and_self]
          refine vwp_block (vloop (fun k : Nat => [(0, .int .i64 (n : Int)), (3, .ptr 3 0), (6, .sl 1 (data.map blkR)), (8, .own 40 (A ++ (data.take k).map fun d => tbC (datT d)).length), (44, .sl 1 (data.map blkR)), (45, .int .i64 (data.length : Int)), (46, .int .i64 (k : Int))])
            (fun k => [(3, .box 44 [.str f.name, .int .i64 f.dcb.org, .int .i64 f.dcb.fmt, .bool f.dcb.bl, .bool f.dcb.asa, .int .i64 f.dcb.lrecl, .int .i64 f.dcb.blk, .int .i64 f.dcb.klen, .int .i64 f.dcb.kpos, .sl 1 (f.recs.map blkR)]), (40, .arr 3 48 (A ++ (data.take k).map fun d => tbC (datT d)))])
            (fun k => k ≤ data.length) (fun k => data.length - k) 0 (Nat.zero_le _) (by simp only [List.take_zero, List.map_nil, List.append_nil, List.length_map, go_sem, Int.reduceEq, Int.reduceNe, Int.reduceLT, Int.reduceLE, Nat.reduceEqDiff, Nat.reduceAdd, Nat.reduceMul, Nat.reduceLT, Nat.reduceLeDiff, Nat.reduceSub, reduceCtorEq, reduceIte, Int.reduceToNat, beq_self_eq_true, Bool.and_self]) ?_)
          intro k hk
          have htk : (data.take k).length = k := by rw [List.length_take]; omega
          have hAk : (A ++ (data.take k).map fun d => tbC (datT d)).length = 3 + k := by rw [List.length_append, hAl, List.length_map, htk]
          refine vwp_seq_k fun Nl hNl => vreg tt_ok hF rfl ?_; simp only [go_sem, Int.reduceEq, Int.reduceNe, Int.reduceLT, Int.reduceLE, Nat.reduceEqDiff, Nat.reduceAdd, Nat.reduceMul, Nat.reduceLT, Nat.reduceLeDiff, Nat.reduceSub, reduceCtorEq, reduceIte, Int.reduceToNat, beq_self_eq_true, Bool.and_self]
          refine hNl _ (VWp.keep [0,3,6,8,44,45,46,47] [3,40] ?_); simp only [go_sem, Int.reduceEq, Int.reduceNe, Int.reduceLT, Int.reduceLE, Nat.reduceEqDiff, Nat.reduceAdd, Nat.reduceMul, Nat.reduceLT, Nat.reduceLeDiff, Nat.reduceSub, reduceCtorEq, reduceIte, Int.reduceToNat, beq_self_eq_true, Bool.and_self]
          refine vwp_seq_k fun Nm hNm => ?_
          refine vif rfl ⟨fun ht => ?_, fun hf => ?_⟩
          · have hlt : k < data.length := by have := of_decide_eq_true ht; omega
            have hget : (data.map blkR).getD k [] = [V.sl 1 (data[k].map u8c)] := by simp [List.getD_eq_getElem?_getD, List.getElem?_eq_getElem hlt, blkR, u8V]
            have hnext : (A ++ (data.take k).map fun d => tbC (datT d)) ++ [[V.bool false, V.sl 1 (data[k].map u8c), V.bool false]] = A ++ (data.take (k + 1)).map fun d => tbC (datT d) := by
              rw [List.take_succ_eq_append_getElem hlt, List.map_append, List.append_assoc]; rfl
            refine vwp_skip (hNm _ ?_)
            refine vwp_seq_k fun Nn hNn => ?_
            refine vwp_block ?_
            refine vwp_seq_k fun No hNo => vreg tt_ok hF rfl ?_; simp only [go_sem, Int.reduceEq, Int.reduceNe, Int.reduceLT, Int.reduceLE, Nat.reduceEqDiff, Nat.reduceAdd, Nat.reduceMul, Nat.reduceLT, Nat.reduceLeDiff, Nat.reduceSub, reduceCtorEq, reduceIte, Int.reduceToNat, beq_self_eq_true, Bool.and_self]
            simp only [hget, List.length_map, go_sem, Int.reduceEq, Int.reduceNe, Int.reduceLT, Int.reduceLE, Nat.reduceEqDiff, Nat.reduceAdd, Nat.reduceMul, Nat.reduceLT, Nat.reduceLeDiff, Nat.reduceSub, reduceCtorEq, reduceIte, Int.reduceToNat, beq_self_eq_true, Bool.and_self]
            refine ⟨⟨by omega, by omega⟩, ?_⟩
            refine hNo _ (VWp.keep [0,3,6,8,10,44,45,46] [3,40] ?_); simp only [go_sem, Int.reduceEq, Int.reduceNe, Int.reduceLT, Int.reduceLE, Nat.reduceEqDiff, Nat.reduceAdd, Nat.reduceMul, Nat.reduceLT, Nat.reduceLeDiff, Nat.reduceSub, reduceCtorEq, reduceIte, Int.reduceToNat, beq_self_eq_true, Bool.and_self]
            refine vreg tt_ok hF rfl ?_; simp only [go_sem, Int.reduceEq, Int.reduceNe, Int.reduceLT, Int.reduceLE, Nat.reduceEqDiff, Nat.reduceAdd, Nat.reduceMul, Nat.reduceLT, Nat.reduceLeDiff, Nat.reduceSub, reduceCtorEq, reduceIte, Int.reduceToNat, beq_self_eq_true, Bool.and_self]
            refine ⟨by omega, ?_⟩
            rw [hnext]
            refine hNn _ (VWp.keep [0,3,6,8,44,45,46] [3,40] ?_); simp only [go_sem, Int.reduceEq, Int.reduceNe, Int.reduceLT, Int.reduceLE, Nat.reduceEqDiff, Nat.reduceAdd, Nat.reduceMul, Nat.reduceLT, Nat.reduceLeDiff, Nat.reduceSub, reduceCtorEq, reduceIte, Int.reduceToNat, beq_self_eq_true, Bool.and_self]
            refine vreg tt_ok hF rfl ?_; simp only [go_sem, Int.reduceEq, Int.reduceNe, Int.reduceLT, Int.reduceLE, Nat.reduceEqDiff, Nat.reduceAdd, Nat.reduceMul, Nat.reduceLT, Nat.reduceLeDiff, Nat.reduceSub, reduceCtorEq, reduceIte, Int.reduceToNat, beq_self_eq_true, Bool.and_self]
            rw [wrap_i64 (by omega) (by omega)]
            exact ⟨k + 1, by omega, by omega, by simp⟩
          · have hke : k = data.length := by have := of_decide_eq_false hf; omega
            subst hke
            rw [List.take_length] at hAk ⊢
            refine vwp_exit ?_
            simp only [go_sem, Int.reduceEq, Int.reduceNe, Int.reduceLT, Int.reduceLE, Nat.reduceEqDiff, Nat.reduceAdd, Nat.reduceMul, Nat.reduceLT, Nat.reduceLeDiff, Nat.reduceSub, reduceCtorEq, reduceIte, Int.reduceToNat, beq_self_eq_true, Bool.and_self]
            refine hNj _ (VWp.keepR [0,3,6,8] [3,40] tt_ok hF rfl fun Np hNp => ?_); simp only [go_sem, Int.reduceEq, Int.reduceNe, Int.reduceLT, Int.reduceLE, Nat.reduceEqDiff, Nat.reduceAdd, Nat.reduceMul, Nat.reduceLT, Nat.reduceLeDiff, Nat.reduceSub, reduceCtorEq, reduceIte, Int.reduceToNat, beq_self_eq_true, Bool.and_self]
            refine .inl ⟨_, hmk, ?_⟩; try simp only [go_sem, Int.reduceEq, Int.reduceNe, Int.reduceLT, Int.reduceLE, Nat.reduceEqDiff, Nat.reduceAdd, Nat.reduceMul, Nat.reduceLT, Nat.reduceLeDiff, Nat.reduceSub, reduceCtorEq, reduceIte, Int.reduceToNat, beq_self_eq_true, Bool.and_self]
            refine ⟨by rw [hAk]; omega, ?_⟩
            refine hNp _ (VWp.keepR [0,3,6,8] [3,40] tt_ok hF rfl fun Nq hNq => ?_); simp only [go_sem, Int.reduceEq, Int.reduceNe, Int.reduceLT, Int.reduceLE, Nat.reduceEqDiff, Nat.reduceAdd, Nat.reduceMul, Nat.reduceLT, Nat.reduceLeDiff, Nat.reduceSub, reduceCtorEq, reduceIte, Int.reduceToNat, beq_self_eq_true, Bool.and_self]
            refine .inr (bxo [(62, 65)] rfl ?_); simp only [go_sem, Int.reduceEq, Int.reduceNe, Int.reduceLT, Int.reduceLE, Nat.reduceEqDiff, Nat.reduceAdd, Nat.reduceMul, Nat.reduceLT, Nat.reduceLeDiff, Nat.reduceSub, reduceCtorEq, reduceIte, Int.reduceToNat, beq_self_eq_true, Bool.and_self]; refine ⟨_, _, hp2, ?_⟩; try simp only [go_sem, Int.reduceEq, Int.reduceNe, Int.reduceLT, Int.reduceLE, Nat.reduceEqDiff, Nat.reduceAdd, Nat.reduceMul, Nat.reduceLT, Nat.reduceLeDiff, Nat.reduceSub, reduceCtorEq, reduceIte, Int.reduceToNat, beq_self_eq_true, Bool.and_self]
            simp only [q2, go_sem, Int.reduceEq, Int.reduceNe, Int.reduceLT, Int.reduceLE, Nat.reduceEqDiff, Nat.reduceAdd, Nat.reduceMul, Nat.reduceLT, Nat.reduceLeDiff, Nat.reduceSub, reduceCtorEq, reduceIte, Int.reduceToNat, beq_self_eq_true, Bool.and_self]
            refine ⟨by rw [List.length_append, hAk]; simp; omega, ?_⟩
            refine .inl ⟨_, hmk, ?_⟩; try simp only [go_sem, Int.reduceEq, Int.reduceNe, Int.reduceLT, Int.reduceLE, Nat.reduceEqDiff, Nat.reduceAdd, Nat.reduceMul, Nat.reduceLT, Nat.reduceLeDiff, Nat.reduceSub, reduceCtorEq, reduceIte, Int.reduceToNat, beq_self_eq_true, Bool.and_self]
            refine ⟨by rw [List.length_append, List.length_append, hAk, q2]; simp; omega, ?_⟩
            refine hNq _ (VWp.keep [4,5] [40] ?_); simp only [go_sem, Int.reduceEq, Int.reduceNe, Int.reduceLT, Int.reduceLE, Nat.reduceEqDiff, Nat.reduceAdd, Nat.reduceMul, Nat.reduceLT, Nat.reduceLeDiff, Nat.reduceSub, reduceCtorEq, reduceIte, Int.reduceToNat, beq_self_eq_true, Bool.and_self]
            refine vwp_ret ?_
            simp only [go_sem, Int.reduceEq, Int.reduceNe, Int.reduceLT, Int.reduceLE, Nat.reduceEqDiff, Nat.reduceAdd, Nat.reduceMul, Nat.reduceLT, Nat.reduceLeDiff, Nat.reduceSub, reduceCtorEq, reduceIte, Int.reduceToNat, beq_self_eq_true, Bool.and_self]
            refine LeV.of_eq ?_
            rw [← hA]
            simp [tbC, mrkT, u8V]
      · have c3 : chkT f.dcb = false := by simpa using c3
        have e0 : chkE f.dcb = 5 := by unfold chkE; rw [c3]; rfl
        have eb : bksE n f = ([], 5) := by unfold bksE filOk; rw [c3, Bool.and_false]; rfl
        have e2 : decide (f.dcb.org = 1) = true := decide_eq_true c2
        rw [e0] at hchk
        rw [eb]
        unfold filV filC
        unfold dcbV dcbC at hchk
        refine spec_of tt_ok Tryz.func26 rfl (by decide) Tryz.ntmps26 (congrArg Array.toList Tryz.results26) (by simp) (by decide) rfl rfl (fun F hF => ?_)
        refine vwp_seq_k fun Na hNa => vreg tt_ok hF rfl ?_; simp only [go_sem, Int.reduceEq, Int.reduceNe, Int.reduceLT, Int.reduceLE, Nat.reduceEqDiff, Nat.reduceAdd, Nat.reduceMul, Nat.reduceLT, Nat.reduceLeDiff, Nat.reduceSub, reduceCtorEq, reduceIte, Int.reduceToNat, beq_self_eq_true, Bool.and_self]
        refine hNa _ (VWp.keep [0,3] [3] ?_); simp only [go_sem, Int.reduceEq, Int.reduceNe, Int.reduceLT, Int.reduceLE, Nat.reduceEqDiff, Nat.reduceAdd, Nat.reduceMul, Nat.reduceLT, Nat.reduceLeDiff, Nat.reduceSub, reduceCtorEq, reduceIte, Int.reduceToNat, beq_self_eq_true, Bool.and_self]
        refine vwp_seq_k fun Nb hNb => ?_
        refine vwp_seq_k fun Nc hNc => vreg tt_ok hF rfl ?_; simp only [go_sem, Int.reduceEq, Int.reduceNe, Int.reduceLT, Int.reduceLE, Nat.reduceEqDiff, Nat.reduceAdd, Nat.reduceMul, Nat.reduceLT, Nat.reduceLeDiff, Nat.reduceSub, reduceCtorEq, reduceIte, Int.reduceToNat, beq_self_eq_true, Bool.and_self]
        refine .inl ⟨_, hname, ?_⟩; try simp only [go_sem, Int.reduceEq, Int.reduceNe, Int.reduceLT, Int.reduceLE, Nat.reduceEqDiff, Nat.reduceAdd, Nat.reduceMul, Nat.reduceLT, Nat.reduceLeDiff, Nat.reduceSub, reduceCtorEq, reduceIte, Int.reduceToNat, beq_self_eq_true, Bool.and_self]
        try simp only [e2, decide_true, Bool.not_true, go_sem, Int.reduceEq, Int.reduceNe, Int.reduceLT, Int.reduceLE, Nat.reduceEqDiff, Nat.reduceAdd, Nat.reduceMul, Nat.reduceLT, Nat.reduceLeDiff, Nat.reduceSub, reduceCtorEq, reduceIte, Int.reduceToNat, beq_self_eq_true, Bool.and_self]
        refine .inl ⟨_, hchk, ?_⟩; try simp only [go_sem, Int.reduceEq, Int.reduceNe, Int.reduceLT, Int.reduceLE, Nat.reduceEqDiff, Nat.reduceAdd, Nat.reduceMul, Nat.reduceLT, Nat.reduceLeDiff, Nat.reduceSub, reduceCtorEq, reduceIte, Int.reduceToNat, beq_self_eq_true, Bool.and_self]
        refine hNc _ (VWp.keep [0,3,26] [3] ?_); simp only [go_sem, Int.reduceEq, Int.reduceNe, Int.reduceLT, Int.reduceLE, Nat.reduceEqDiff, Nat.reduceAdd, Nat.reduceMul, Nat.reduceLT, Nat.reduceLeDiff, Nat.reduceSub, reduceCtorEq, reduceIte, Int.reduceToNat, beq_self_eq_true, Bool.and_self]
        refine vif rfl ⟨fun _ => ?_, (fun hf => by cases hf)⟩
        refine vwp_seq_k fun Nd hNd => vreg tt_ok hF rfl ?_; simp only [go_sem, Int.reduceEq, Int.reduceNe, Int.reduceLT, Int.reduceLE, Nat.reduceEqDiff, Nat.reduceAdd, Nat.reduceMul, Nat.reduceLT, Nat.reduceLeDiff, Nat.reduceSub, reduceCtorEq, reduceIte, Int.reduceToNat, beq_self_eq_true, Bool.and_self]
        refine hNd _ (VWp.keep [4,5] [] ?_); simp only [go_sem, Int.reduceEq, Int.reduceNe, Int.reduceLT, Int.reduceLE, Nat.reduceEqDiff, Nat.reduceAdd, Nat.reduceMul, Nat.reduceLT, Nat.reduceLeDiff, Nat.reduceSub, reduceCtorEq, reduceIte, Int.reduceToNat, beq_self_eq_true, Bool.and_self]
        refine vwp_ret ?_
        simp only [go_sem, Int.reduceEq, Int.reduceNe, Int.reduceLT, Int.reduceLE, Nat.reduceEqDiff, Nat.reduceAdd, Nat.reduceMul, Nat.reduceLT, Nat.reduceLeDiff, Nat.reduceSub, reduceCtorEq, reduceIte, Int.reduceToNat, beq_self_eq_true, Bool.and_self]
        exact LeV.tup ⟨LeV.nil _, LeV.refl _, trivial⟩
    · have eb : bksE n f = ([], 5) := by unfold bksE filOk; rw [decide_eq_false c2, Bool.and_false, Bool.false_and]; rfl
      have e2 : decide (f.dcb.org = 1) = false := decide_eq_false c2
      rw [eb]
      unfold filV filC
      refine spec_of tt_ok Tryz.func26 rfl (by decide) Tryz.ntmps26 (congrArg Array.toList Tryz.results26) (by simp) (by decide) rfl rfl (fun F hF => ?_)
      refine vwp_seq_k fun Na hNa => vreg tt_ok hF rfl ?_; simp only [go_sem, Int.reduceEq, Int.reduceNe, Int.reduceLT, Int.reduceLE, Nat.reduceEqDiff, Nat.reduceAdd, Nat.reduceMul, Nat.reduceLT, Nat.reduceLeDiff, Nat.reduceSub, reduceCtorEq, reduceIte, Int.reduceToNat, beq_self_eq_true, Bool.and_self]
      refine hNa _ (VWp.keep [0,3] [3] ?_); simp only [go_sem, Int.reduceEq, Int.reduceNe, Int.reduceLT, Int.reduceLE, Nat.reduceEqDiff, Nat.reduceAdd, Nat.reduceMul, Nat.reduceLT, Nat.reduceLeDiff, Nat.reduceSub, reduceCtorEq, reduceIte, Int.reduceToNat, beq_self_eq_true, Bool.and_self]
      refine vwp_seq_k fun Nb hNb => ?_
      refine vwp_seq_k fun Nc hNc => vreg tt_ok hF rfl ?_; simp only [go_sem, Int.reduceEq, Int.reduceNe, Int.reduceLT, Int.reduceLE, Nat.reduceEqDiff, Nat.reduceAdd, Nat.reduceMul, Nat.reduceLT, Nat.reduceLeDiff, Nat.reduceSub, reduceCtorEq, reduceIte, Int.reduceToNat, beq_self_eq_true, Bool.and_self]
      refine .inl ⟨_, hname, ?_⟩; try simp only [go_sem, Int.reduceEq, Int.reduceNe, Int.reduceLT, Int.reduceLE, Nat.reduceEqDiff, Nat.reduceAdd, Nat.reduceMul, Nat.reduceLT, Nat.reduceLeDiff, Nat.reduceSub, reduceCtorEq, reduceIte, Int.reduceToNat, beq_self_eq_true, Bool.and_self]
      try simp only [e2, decide_true, Bool.not_true, go_sem, Int.reduceEq, Int.reduceNe, Int.reduceLT, Int.reduceLE, Nat.reduceEqDiff, Nat.reduceAdd, Nat.reduceMul, Nat.reduceLT, Nat.reduceLeDiff, Nat.reduceSub, reduceCtorEq, reduceIte, Int.reduceToNat, beq_self_eq_true, Bool.and_self]
      refine hNc _ (VWp.keep [0,3,26] [3] ?_); simp only [go_sem, Int.reduceEq, Int.reduceNe, Int.reduceLT, Int.reduceLE, Nat.reduceEqDiff, Nat.reduceAdd, Nat.reduceMul, Nat.reduceLT, Nat.reduceLeDiff, Nat.reduceSub, reduceCtorEq, reduceIte, Int.reduceToNat, beq_self_eq_true, Bool.and_self]
      refine vif rfl ⟨fun _ => ?_, (fun hf => by cases hf)⟩
      refine vwp_seq_k fun Nd hNd => vreg tt_ok hF rfl ?_; simp only [go_sem, Int.reduceEq, Int.reduceNe, Int.reduceLT, Int.reduceLE, Nat.reduceEqDiff, Nat.reduceAdd, Nat.reduceMul, Nat.reduceLT, Nat.reduceLeDiff, Nat.reduceSub, reduceCtorEq, reduceIte, Int.reduceToNat, beq_self_eq_true, Bool.and_self]
      refine hNd _ (VWp.keep [4,5] [] ?_); simp only [go_sem, Int.reduceEq, Int.reduceNe, Int.reduceLT, Int.reduceLE, Nat.reduceEqDiff, Nat.reduceAdd, Nat.reduceMul, Nat.reduceLT, Nat.reduceLeDiff, Nat.reduceSub, reduceCtorEq, reduceIte, Int.reduceToNat, beq_self_eq_true, Bool.and_self]
      refine vwp_ret ?_
      simp only [go_sem, Int.reduceEq, Int.reduceNe, Int.reduceLT, Int.reduceLE, Nat.reduceEqDiff, Nat.reduceAdd, Nat.reduceMul, Nat.reduceLT, Nat.reduceLeDiff, Nat.reduceSub, reduceCtorEq, reduceIte, Int.reduceToNat, beq_self_eq_true, Bool.and_self]
      exact LeV.tup ⟨LeV.nil _, LeV.refl _, trivial⟩
  · have c1 : nameOk f.name = false := by simpa using c1
    have eb : bksE n f = ([], 5) := by unfold bksE filOk; rw [c1, Bool.false_and, Bool.false_and]; rfl
    rw [c1] at hname
    rw [eb]
    unfold filV filC
    refine spec_of tt_ok Tryz.func26 rfl (by decide) Tryz.ntmps26 (congrArg Array.toList Tryz.results26) (by simp) (by decide) rfl rfl (fun F hF => ?_)
    refine vwp_seq_k fun Na hNa => vreg tt_ok hF rfl ?_; simp only [go_sem, Int.reduceEq, Int.reduceNe, Int.reduceLT, Int.reduceLE, Nat.reduceEqDiff, Nat.reduceAdd, Nat.reduceMul, Nat.reduceLT, Nat.reduceLeDiff, Nat.reduceSub, reduceCtorEq, reduceIte, Int.reduceToNat, beq_self_eq_true, Bool.and_self]
    refine hNa _ (VWp.keep [0,3] [3] ?_); simp only [go_sem, Int.reduceEq, Int.reduceNe, Int.reduceLT, Int.reduceLE, Nat.reduceEqDiff, Nat.reduceAdd, Nat.reduceMul, Nat.reduceLT, Nat.reduceLeDiff, Nat.reduceSub, reduceCtorEq, reduceIte, Int.reduceToNat, beq_self_eq_true, Bool.and_self]
    refine vwp_seq_k fun Nb hNb => ?_
    refine vwp_seq_k fun Nc hNc => vreg tt_ok hF rfl ?_; simp only [go_sem, Int.reduceEq, Int.reduceNe, Int.reduceLT, Int.reduceLE, Nat.reduceEqDiff, Nat.reduceAdd, Nat.reduceMul, Nat.reduceLT, Nat.reduceLeDiff, Nat.reduceSub, reduceCtorEq, reduceIte, Int.reduceToNat, beq_self_eq_true, Bool.and_self]
    refine .inl ⟨_, hname, ?_⟩; try simp only [go_sem, Int.reduceEq, Int.reduceNe, Int.reduceLT, Int.reduceLE, Nat.reduceEqDiff, Nat.reduceAdd, Nat.reduceMul, Nat.reduceLT, Nat.reduceLeDiff, Nat.reduceSub, reduceCtorEq, reduceIte, Int.reduceToNat, beq_self_eq_true, Bool.and_self]
    refine hNc _ (VWp.keep [0,3,26] [3] ?_); simp only [go_sem, Int.reduceEq, Int.reduceNe, Int.reduceLT, Int.reduceLE, Nat.reduceEqDiff, Nat.reduceAdd, Nat.reduceMul, Nat.reduceLT, Nat.reduceLeDiff, Nat.reduceSub, reduceCtorEq, reduceIte, Int.reduceToNat, beq_self_eq_true, Bool.and_self]
    refine vif rfl ⟨fun _ => ?_, (fun hf => by cases hf)⟩
    refine vwp_seq_k fun Nd hNd => vreg tt_ok hF rfl ?_; simp only [go_sem, Int.reduceEq, Int.reduceNe, Int.reduceLT, Int.reduceLE, Nat.reduceEqDiff, Nat.reduceAdd, Nat.reduceMul, Nat.reduceLT, Nat.reduceLeDiff, Nat.reduceSub, reduceCtorEq, reduceIte, Int.reduceToNat, beq_self_eq_true, Bool.and_self]
    refine hNd _ (VWp.keep [4,5] [] ?_); simp only [go_sem, Int.reduceEq, Int.reduceNe, Int.reduceLT, Int.reduceLE, Nat.reduceEqDiff, Nat.reduceAdd, Nat.reduceMul, Nat.reduceLT, Nat.reduceLeDiff, Nat.reduceSub, reduceCtorEq, reduceIte, Int.reduceToNat, beq_self_eq_true, Bool.and_self]
    refine vwp_ret ?_
    simp only [go_sem, Int.reduceEq, Int.reduceNe, Int.reduceLT, Int.reduceLE, Nat.reduceEqDiff, Nat.reduceAdd, Nat.reduceMul, Nat.reduceLT, Nat.reduceLeDiff, Nat.reduceSub, reduceCtorEq, reduceIte, Int.reduceToNat, beq_self_eq_true, Bool.and_self]
    exact LeV.tup ⟨LeV.nil _, LeV.refl _, trivial⟩
set_option maxHeartbeats 4000000 in
set_option maxRecDepth 4000 in
theorem finish_B (rows : List (List V)) (hr : ∀ r ∈ rows, r.length = 3) (h : rows.length < 4096) : SpecB Tryz.prog 27 [.own 1000000 rows.length] [(1000000, .arr 3 48 rows)] (.tup [.own 1000000 (rows.length + 1), .int .i64 0]) [(1000000, .arr 3 48 (rows ++ [tbC mrkT]))] := by
  have hmk := mark_spec
  have hlen : (rows ++ [tbC mrkT]).length = rows.length + 1 := by simp
  simp only [tbC, mrkT, u8V, List.map_nil] at hmk hlen ⊢
  rw [← hlen]
  have e1 : decide ((4096 : Int) ≤ (rows.length : Int)) = false := decide_eq_false (by omega)
  refine specB_of tt_ok Tryz.func27 rfl (by decide) Tryz.ntmps27 (congrArg Array.toList Tryz.results27) (by simp) (by decide) rfl (by simp only [go_sem, Int.reduceEq, Int.reduceNe, Int.reduceLT, Int.reduceLE, Nat.reduceEqDiff, Nat.reduceAdd, Nat.reduceMul, Nat.reduceLT, Nat.reduceLeDiff, Nat.reduceSub, reduceCtorEq, reduceIte, Int.reduceToNat, beq_self_eq_true, Bool.and_self]) (fun F hF => ?_)
  refine vwp_seq_k fun Na hNa => vreg tt_ok hF rfl ?_; simp only [go_sem, Int.reduceEq, Int.reduceNe, Int.reduceLT, Int.reduceLE, Nat.reduceEqDiff, Nat.reduceAdd, Nat.reduceMul, Nat.reduceLT, Nat.reduceLeDiff, Nat.reduceSub, reduceCtorEq, reduceIte, Int.reduceToNat, beq_self_eq_true, Bool.and_self]
  refine hNa _ (VWp.keep [0] [1000000] ?_); simp only [go_sem, Int.reduceEq, Int.reduceNe, Int.reduceLT, Int.reduceLE, Nat.reduceEqDiff, Nat.reduceAdd, Nat.reduceMul, Nat.reduceLT, Nat.reduceLeDiff, Nat.reduceSub, reduceCtorEq, reduceIte, Int.reduceToNat, beq_self_eq_true, Bool.and_self]
  refine vwp_seq_k fun Nb hNb => ?_
  refine vwp_seq_k fun Nc hNc => vreg tt_ok hF rfl ?_; simp only [go_sem, Int.reduceEq, Int.reduceNe, Int.reduceLT, Int.reduceLE, Nat.reduceEqDiff, Nat.reduceAdd, Nat.reduceMul, Nat.reduceLT, Nat.reduceLeDiff, Nat.reduceSub, reduceCtorEq, reduceIte, Int.reduceToNat, beq_self_eq_true, Bool.and_self]
  refine hNc _ (VWp.keep [0,6] [1000000] ?_); simp only [go_sem, Int.reduceEq, Int.reduceNe, Int.reduceLT, Int.reduceLE, Nat.reduceEqDiff, Nat.reduceAdd, Nat.reduceMul, Nat.reduceLT, Nat.reduceLeDiff, Nat.reduceSub, reduceCtorEq, reduceIte, Int.reduceToNat, beq_self_eq_true, Bool.and_self]
  refine vif rfl ⟨(fun ht => by rw [e1] at ht; cases ht), fun hf => ?_⟩
  refine vwp_skip (hNb _ ?_)
  refine vwp_seq_k fun Ne hNe => vreg tt_ok hF rfl ?_; simp only [go_sem, Int.reduceEq, Int.reduceNe, Int.reduceLT, Int.reduceLE, Nat.reduceEqDiff, Nat.reduceAdd, Nat.reduceMul, Nat.reduceLT, Nat.reduceLeDiff, Nat.reduceSub, reduceCtorEq, reduceIte, Int.reduceToNat, beq_self_eq_true, Bool.and_self]
  refine .inl ⟨_, hmk, ?_⟩; try simp only [go_sem, Int.reduceEq, Int.reduceNe, Int.reduceLT, Int.reduceLE, Nat.reduceEqDiff, Nat.reduceAdd, Nat.reduceMul, Nat.reduceLT, Nat.reduceLeDiff, Nat.reduceSub, reduceCtorEq, reduceIte, Int.reduceToNat, beq_self_eq_true, Bool.and_self]
  refine ⟨by omega, ?_⟩
  refine hNe _ (VWp.keep [2,3] [1000000] ?_); simp only [go_sem, Int.reduceEq, Int.reduceNe, Int.reduceLT, Int.reduceLE, Nat.reduceEqDiff, Nat.reduceAdd, Nat.reduceMul, Nat.reduceLT, Nat.reduceLeDiff, Nat.reduceSub, reduceCtorEq, reduceIte, Int.reduceToNat, beq_self_eq_true, Bool.and_self]
  refine vwp_ret ?_
  simp only [go_sem, Int.reduceEq, Int.reduceNe, Int.reduceLT, Int.reduceLE, Nat.reduceEqDiff, Nat.reduceAdd, Nat.reduceMul, Nat.reduceLT, Nat.reduceLeDiff, Nat.reduceSub, reduceCtorEq, reduceIte, Int.reduceToNat, beq_self_eq_true, Bool.and_self]
  first | exact LeV.refl _ | exact ⟨LeV.refl _, by simp⟩
set_option maxHeartbeats 4000000 in
set_option maxRecDepth 4000 in
theorem finish_full (rows : List (List V)) (h : 4096 ≤ rows.length) : Spec Tryz.prog 27 [.sl 3 rows] (.tup [.sl 3 [], .int .i64 2]) := by
  have e1 : decide ((4096 : Int) ≤ (rows.length : Int)) = true := decide_eq_true (by omega)
  refine spec_of tt_ok Tryz.func27 rfl (by decide) Tryz.ntmps27 (congrArg Array.toList Tryz.results27) (by simp) (by decide) rfl rfl (fun F hF => ?_)
  refine vwp_seq_k fun Na hNa => vreg tt_ok hF rfl ?_; simp only [go_sem, Int.reduceEq, Int.reduceNe, Int.reduceLT, Int.reduceLE, Nat.reduceEqDiff, Nat.reduceAdd, Nat.reduceMul, Nat.reduceLT, Nat.reduceLeDiff, Nat.reduceSub, reduceCtorEq, reduceIte, Int.reduceToNat, beq_self_eq_true, Bool.and_self]
  refine hNa _ (VWp.keep [0] [] ?_); simp only [go_sem, Int.reduceEq, Int.reduceNe, Int.reduceLT, Int.reduceLE, Nat.reduceEqDiff, Nat.reduceAdd, Nat.reduceMul, Nat.reduceLT, Nat.reduceLeDiff, Nat.reduceSub, reduceCtorEq, reduceIte, Int.reduceToNat, beq_self_eq_true, Bool.and_self]
  refine vwp_seq_k fun Nb hNb => ?_
  refine vwp_seq_k fun Nc hNc => vreg tt_ok hF rfl ?_; simp only [go_sem, Int.reduceEq, Int.reduceNe, Int.reduceLT, Int.reduceLE, Nat.reduceEqDiff, Nat.reduceAdd, Nat.reduceMul, Nat.reduceLT, Nat.reduceLeDiff, Nat.reduceSub, reduceCtorEq, reduceIte, Int.reduceToNat, beq_self_eq_true, Bool.and_self]
  refine hNc _ (VWp.keep [0,6] [] ?_); simp only [go_sem, Int.reduceEq, Int.reduceNe, Int.reduceLT, Int.reduceLE, Nat.reduceEqDiff, Nat.reduceAdd, Nat.reduceMul, Nat.reduceLT, Nat.reduceLeDiff, Nat.reduceSub, reduceCtorEq, reduceIte, Int.reduceToNat, beq_self_eq_true, Bool.and_self]
  refine vif rfl ⟨fun _ => ?_, (fun hf => by rw [e1] at hf; cases hf)⟩
  refine vwp_seq_k fun Nd hNd => vreg tt_ok hF rfl ?_; simp only [go_sem, Int.reduceEq, Int.reduceNe, Int.reduceLT, Int.reduceLE, Nat.reduceEqDiff, Nat.reduceAdd, Nat.reduceMul, Nat.reduceLT, Nat.reduceLeDiff, Nat.reduceSub, reduceCtorEq, reduceIte, Int.reduceToNat, beq_self_eq_true, Bool.and_self]
  refine hNd _ (VWp.keep [2,3] [] ?_); simp only [go_sem, Int.reduceEq, Int.reduceNe, Int.reduceLT, Int.reduceLE, Nat.reduceEqDiff, Nat.reduceAdd, Nat.reduceMul, Nat.reduceLT, Nat.reduceLeDiff, Nat.reduceSub, reduceCtorEq, reduceIte, Int.reduceToNat, beq_self_eq_true, Bool.and_self]
  refine vwp_ret ?_
  simp only [go_sem, Int.reduceEq, Int.reduceNe, Int.reduceLT, Int.reduceLE, Nat.reduceEqDiff, Nat.reduceAdd, Nat.reduceMul, Nat.reduceLT, Nat.reduceLeDiff, Nat.reduceSub, reduceCtorEq, reduceIte, Int.reduceToNat, beq_self_eq_true, Bool.and_self]
  exact LeV.tup ⟨LeV.nil _, LeV.refl _, trivial⟩
end Go.Proofs.YtjedikaidbobdaaGreatDoor
