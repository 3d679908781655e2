import Derived.Outline
import Derived.Test.YtjedikaidbobdaaGreatDoorUO
/- Layer 26: a written tape is read. -/
-- SIMP: beq_self_eq_true, Bool.and_self
namespace Go.Proofs.YtjedikaidbobdaaGreatDoor
open Go.RowKit
open Go.Lib (decDigits)
set_option linter.unusedVariables false
set_option linter.unusedSimpArgs false
theorem part_no32 : ∀ n < 256, (partC (UInt8.ofNat n) || UInt8.ofNat n == 46) = true → UInt8.ofNat n ≠ 32 := by decide +kernel
theorem name_last {s : Bs} (h : nameOk s = true) : s = [] ∨ s.getLast? ≠ some 32 := by
  unfold nameOk at h
  rw [Bool.and_eq_true] at h
  have h2 : (splitAtC 46 s).all (fun p => p.all partC) = true := by
    rw [List.all_eq_true] at h ⊢
    intro p hp
    have := h.2 p hp
    unfold partOk at this
    rw [Bool.and_eq_true] at this
    exact this.2
  have h3 := split_chars s h2
  rw [List.all_eq_true] at h3
  refine .inr fun q => ?_
  have := part_no32 (32 : UInt8).toNat (by decide)
  exact this (h3 32 (List.mem_of_getLast? q)) rfl
theorem ser_no32 : ∀ n < 256, capC (UInt8.ofNat n) = true → UInt8.ofNat n ≠ 32 := by decide +kernel
theorem ser_last {s : Bs} (h : serT s = true) : s = [] ∨ s.getLast? ≠ some 32 := by
  unfold serT at h
  simp only [Bool.and_eq_true] at h
  refine .inr fun q => ?_
  exact ser_no32 (32 : UInt8).toNat (by decide) (List.all_eq_true.1 h.2 32 (List.mem_of_getLast? q)) rfl
/-- a file that is written, in groups -/
theorem file_groups {n : Nat} {f : FilT} (h : (bksE n f).2 = 0) (hr : f.recs.length ≤ 4096) : ∃ gs : List (List Tb), filOk f = true ∧ (bksE n f).1 = blocksT n f (gs.map (encG f.dcb)) ∧ f.recs = gs.flatten ∧ (∀ g ∈ gs, GrpT f.dcb g) ∧ gs.flatten.length ≤ 4096 := by
  by_cases c1 : filOk f = true
  · have c3 : chkT f.dcb = true := by unfold filOk at c1; simp only [Bool.and_eq_true] at c1; exact c1.2
    unfold bksE at h ⊢
    rw [if_pos c1] at h ⊢
    by_cases c2 : ∀ r ∈ f.recs, fitT f.dcb r.length = true
    · obtain ⟨gs, e1, e2, e3⟩ := blk_groups c3 c2
      have e := blkE_ok c3 hr c2
      rw [e, if_pos rfl, e1]
      exact ⟨gs, c1, rfl, e3.symm, e2, by rw [e3]; exact hr⟩
    · have ⟨r, hr1, hr2⟩ : ∃ r ∈ f.recs, fitT f.dcb r.length = false := by
        rw [Classical.not_forall] at c2
        obtain ⟨r, c2⟩ := c2
        rw [Classical.not_imp] at c2
        exact ⟨r, c2.1, by simpa using c2.2⟩
      have e := blkE_bad c3 hr hr1 hr2
      rw [e] at h
      simp at h
  · unfold bksE at h
    rw [if_neg c1] at h
    simp at h
theorem errB_zero : ∀ (l : List FilT) (n : Nat), errB n l = 0 → ∀ k (hk : k < l.length), (bksE (n + k) l[k]).2 = 0
  | [], n, _, k, hk => by cases hk
  | f :: l, n, h, k, hk => by
    unfold errB at h
    by_cases q : (bksE n f).2 = 0
    · rw [if_pos q] at h
      match k, hk with
      | 0, _ => exact q
      | k + 1, hk =>
        have := errB_zero l (n + 1) h k (by simpa using hk)
        rw [show n + (k + 1) = n + 1 + k by omega]
        simpa using this
    · rw [if_neg q] at h; exact absurd h q
/-- where the file k begins -/
def posT (l : List FilT) (k : Nat) : Nat := 1 + (allB 0 (l.take k)).length
/-- the files l on a tape, and anything behind them -/
def tapR (serial : Tb) (l : List FilT) (rest : List TbT) : List TbT := volT serial :: allB 0 l ++ rest
/-- the tape -/
def tapT (serial : Tb) (l : List FilT) : List TbT := tapR serial l [mrkT]
theorem tap_cut (serial : Tb) (l : List FilT) (rest : List TbT) (k : Nat) (hk : k < l.length) : tapR serial l rest = (volT serial :: allB 0 (l.take k)) ++ (bksE k l[k]).1 ++ (allB (k + 1) (l.drop (k + 1)) ++ rest) := by
  have e : l = l.take k ++ l[k] :: l.drop (k + 1) := by rw [← List.drop_eq_getElem_cons hk, List.take_append_drop]
  have e2 : allB 0 l = allB 0 (l.take k) ++ ((bksE k l[k]).1 ++ allB (k + 1) (l.drop (k + 1))) := by
    conv => lhs; rw [e]
    rw [allB_app, List.length_take, Nat.zero_add, Nat.min_eq_left (by omega)]
    rfl
  unfold tapR
  rw [e2]
  simp
theorem pos_step (l : List FilT) (k : Nat) (hk : k < l.length) : posT l (k + 1) = posT l k + (bksE k l[k]).1.length := by
  unfold posT
  rw [List.take_succ_eq_append_getElem hk, allB_app, List.length_append, List.length_take, Nat.zero_add, Nat.min_eq_left (by omega)]
  show _ = _ + (bksE k l[k]).1.length
  have : (allB k [l[k]]).length = (bksE k l[k]).1.length := by show ((bksE k l[k]).1 ++ []).length = _; rw [List.append_nil]
  omega
theorem blocks_len (n : Nat) (f : FilT) (data : List Tb) : (blocksT n f data).length = data.length + 7 := by
  unfold blocksT pairT; simp
theorem pos_last (serial : Tb) (l : List FilT) : (tapT serial l)[posT l l.length]? = some mrkT ∧ (tapT serial l).length = posT l l.length + 1 := by
  unfold tapT tapR posT
  rw [List.take_length]
  refine ⟨?_, by simp; omega⟩
  rw [List.getElem?_append_right (by simp; omega)]
  simp [show 1 + (allB 0 l).length - ((allB 0 l).length + 1) = 0 by omega]
/-- the file k is read where it lies -/
theorem file_at (serial : Tb) (l : List FilT) (rest : List TbT) (he : errB 0 l = 0) (hrec : ∀ f ∈ l, f.recs.length ≤ 4096) (hB : (tapR serial l rest).length ≤ 1000000) (k : Nat) (hk : k < l.length) (hn : k < 9999) :
    SpecB Tryz.prog 35 [.ptr 1000000 0, .int .i64 (k : Int)] [(1000000, scnO (tapR serial l rest) (posT l k))] (.tup [filV l[k], .bool true]) [(1000000, scnO (tapR serial l rest) (posT l (k + 1)))] ∧
      (∃ b, (tapR serial l rest)[posT l k]? = some (labT b)) := by
  have h0 := errB_zero l 0 he k hk
  rw [Nat.zero_add] at h0
  obtain ⟨gs, c1, c2, c3, c4, c5⟩ := file_groups h0 (hrec _ (List.getElem_mem hk))
  have hc := tap_cut serial l rest k hk
  rw [c2] at hc
  have hL := lie_of (volT serial :: allB 0 (l.take k)) (allB (k + 1) (l.drop (k + 1)) ++ rest) k l[k] (gs.map (encG l[k].dcb))
  have hp : (volT serial :: allB 0 (l.take k)).length = posT l k := by unfold posT; simp; omega
  rw [hp, ← hc] at hL
  have hps := pos_step l k hk
  rw [c2, blocks_len, List.length_map] at hps
  have hname : nameOk l[k].name = true := by unfold filOk at c1; simp only [Bool.and_eq_true] at c1; exact c1.1.1
  have := file_B (tapR serial l rest) (posT l k) k l[k] gs c1 c3 c4 c5 (name_last hname) hn (by omega) hL
  rw [show posT l k + 7 + gs.length = posT l (k + 1) by omega] at this
  exact ⟨this, _, hL.p0⟩
set_option maxHeartbeats 8000000 in
set_option maxRecDepth 4000 in
theorem volume_B (serial : Tb) (hs : serT serial = true) (B : List TbT) (hB : B.length ≤ 1000000) (hb : B[0]? = some (volT serial)) :
    SpecB Tryz.prog 34 [.ptr 1000000 0] [(1000000, scnO B 0)] (.tup [.str serial, .bool true]) [(1000000, scnO B 1)] := by
  obtain ⟨st, sl⟩ := ser_txt hs
  have ht := take_lab [86, 79, 76, 49] ([86, 79, 76, 49] ++ serial) B 0 1 (by omega) hb (by rw [txt_app, st]; rfl) (by simp; omega) rfl rfl
  have hp : padB ([86, 79, 76, 49] ++ serial) 80 = [86, 79, 76, 49] ++ padB serial 76 := by
    unfold padB; simp [show 80 - (serial.length + 4) = 76 - serial.length by omega]
  have htp := TrimPrefix_spec ([86, 79, 76, 49] ++ padB serial 76) [86, 79, 76, 49]
  rw [if_pos (show List.isPrefixOf [86, 79, 76, 49] ([86, 79, 76, 49] ++ padB serial 76) = true by rfl)] at htp
  change Spec _ _ _ (.str (padB serial 76)) at htp
  have htr := TrimRight_spec (padB serial 76) (by rw [padB_len _ _ (by omega)]; omega)
  rw [trim_pad 76 (ser_last hs)] at htr
  have hser := Serial_spec serial
  rw [hs] at hser
  rw [hp] at ht
  generalize [86, 79, 76, 49] ++ padB serial 76 = T at *
  unfold scnO at ht ⊢
  refine specB_of tt_ok Tryz.func34 rfl (by decide) Tryz.ntmps34 (congrArg Array.toList Tryz.results34) (by simp) (by decide) rfl (by simp only [go_sem, Int.reduceEq, Int.reduceNe, Int.reduceLT, Int.reduceLE, Nat.reduceEqDiff, Nat.reduceAdd, Nat.reduceMul, Nat.reduceLT, Nat.reduceLeDiff, Nat.reduceSub, reduceCtorEq, reduceIte, Int.reduceToNat, beq_self_eq_true, Bool.and_self]) (fun F hF => ?_)
  refine vwp_seq_k fun Na hNa => vreg tt_ok hF rfl ?_; simp only [go_sem, Int.reduceEq, Int.reduceNe, Int.reduceLT, Int.reduceLE, Nat.reduceEqDiff, Nat.reduceAdd, Nat.reduceMul, Nat.reduceLT, Nat.reduceLeDiff, Nat.reduceSub, reduceCtorEq, reduceIte, Int.reduceToNat, beq_self_eq_true, Bool.and_self]
  refine hNa _ (VWp.keepR [0] [1000000] tt_ok hF rfl fun Nb hNb => ?_); simp only [go_sem, Int.reduceEq, Int.reduceNe, Int.reduceLT, Int.reduceLE, Nat.reduceEqDiff, Nat.reduceAdd, Nat.reduceMul, Nat.reduceLT, Nat.reduceLeDiff, Nat.reduceSub, reduceCtorEq, reduceIte, Int.reduceToNat, beq_self_eq_true, Bool.and_self]
  refine .inr (bxo [(1000000, 1000000)] rfl ?_); simp only [go_sem, Int.reduceEq, Int.reduceNe, Int.reduceLT, Int.reduceLE, Nat.reduceEqDiff, Nat.reduceAdd, Nat.reduceMul, Nat.reduceLT, Nat.reduceLeDiff, Nat.reduceSub, reduceCtorEq, reduceIte, Int.reduceToNat, beq_self_eq_true, Bool.and_self]; refine ⟨_, _, ht, ?_⟩; try simp only [go_sem, Int.reduceEq, Int.reduceNe, Int.reduceLT, Int.reduceLE, Nat.reduceEqDiff, Nat.reduceAdd, Nat.reduceMul, Nat.reduceLT, Nat.reduceLeDiff, Nat.reduceSub, reduceCtorEq, reduceIte, Int.reduceToNat, beq_self_eq_true, Bool.and_self]
  refine hNb _ (VWp.keepR [4,5] [1000000] tt_ok hF rfl fun Nc hNc => ?_); simp only [go_sem, Int.reduceEq, Int.reduceNe, Int.reduceLT, Int.reduceLE, Nat.reduceEqDiff, Nat.reduceAdd, Nat.reduceMul, Nat.reduceLT, Nat.reduceLeDiff, Nat.reduceSub, reduceCtorEq, reduceIte, Int.reduceToNat, beq_self_eq_true, Bool.and_self]
  refine .inl ⟨_, htp, ?_⟩; try simp only [go_sem, Int.reduceEq, Int.reduceNe, Int.reduceLT, Int.reduceLE, Nat.reduceEqDiff, Nat.reduceAdd, Nat.reduceMul, Nat.reduceLT, Nat.reduceLeDiff, Nat.reduceSub, reduceCtorEq, reduceIte, Int.reduceToNat, beq_self_eq_true, Bool.and_self]
  refine .inl ⟨_, htr, ?_⟩; try simp only [go_sem, Int.reduceEq, Int.reduceNe, Int.reduceLT, Int.reduceLE, Nat.reduceEqDiff, Nat.reduceAdd, Nat.reduceMul, Nat.reduceLT, Nat.reduceLeDiff, Nat.reduceSub, reduceCtorEq, reduceIte, Int.reduceToNat, beq_self_eq_true, Bool.and_self]
  refine hNc _ (VWp.keepR [5,6] [1000000] tt_ok hF rfl fun Nd hNd => ?_); simp only [go_sem, Int.reduceEq, Int.reduceNe, Int.reduceLT, Int.reduceLE, Nat.reduceEqDiff, Nat.reduceAdd, Nat.reduceMul, Nat.reduceLT, Nat.reduceLeDiff, Nat.reduceSub, reduceCtorEq, reduceIte, Int.reduceToNat, beq_self_eq_true, Bool.and_self]
  refine .inl ⟨_, hser, ?_⟩; try simp only [go_sem, Int.reduceEq, Int.reduceNe, Int.reduceLT, Int.reduceLE, Nat.reduceEqDiff, Nat.reduceAdd, Nat.reduceMul, Nat.reduceLT, Nat.reduceLeDiff, Nat.reduceSub, reduceCtorEq, reduceIte, Int.reduceToNat, beq_self_eq_true, Bool.and_self]
  refine hNd _ (VWp.keep [2,3] [1000000] ?_); simp only [go_sem, Int.reduceEq, Int.reduceNe, Int.reduceLT, Int.reduceLE, Nat.reduceEqDiff, Nat.reduceAdd, Nat.reduceMul, Nat.reduceLT, Nat.reduceLeDiff, Nat.reduceSub, reduceCtorEq, reduceIte, Int.reduceToNat, beq_self_eq_true, Bool.and_self]
  refine vwp_ret ?_
  simp only [go_sem, Int.reduceEq, Int.reduceNe, Int.reduceLT, Int.reduceLE, Nat.reduceEqDiff, Nat.reduceAdd, Nat.reduceMul, Nat.reduceLT, Nat.reduceLeDiff, Nat.reduceSub, reduceCtorEq, reduceIte, Int.reduceToNat, beq_self_eq_true, Bool.and_self]
  first | exact LeV.refl _ | exact ⟨LeV.refl _, by simp⟩
end Go.Proofs.YtjedikaidbobdaaGreatDoor
