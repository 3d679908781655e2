import Derived.Outline
import Derived.Test.YtjedikaidbobdaaGreatDoorUE
/- Layer 26: a tape is written. -/
-- SIMP: beq_self_eq_true, Bool.and_self, List.length_append
namespace Go.Proofs.YtjedikaidbobdaaGreatDoor
open Go.RowKit
set_option linter.unusedVariables false
set_option linter.unusedSimpArgs false
def allB : Nat → List FilT → List TbT
  | _, [] => []
  | n, f :: l => (bksE n f).1 ++ allB (n + 1) l
def errB : Nat → List FilT → Int
  | _, [] => 0
  | n, f :: l => if (bksE n f).2 = 0 then errB (n + 1) l else (bksE n f).2
theorem allB_app : ∀ (a b : List FilT) (n : Nat), allB n (a ++ b) = allB n a ++ allB (n + a.length) b
  | [], b, n => rfl
  | f :: a, b, n => by
    show (bksE n f).1 ++ allB (n + 1) (a ++ b) = ((bksE n f).1 ++ allB (n + 1) a) ++ allB (n + (a.length + 1)) b
    rw [allB_app a b (n + 1), List.append_assoc, show n + 1 + a.length = n + (a.length + 1) by omega]
theorem errB_first : ∀ (l : List FilT) (n k : Nat) (hk : k < l.length), (∀ j (h : j < k), (bksE (n + j) (l[j]'(by omega))).2 = 0) → (bksE (n + k) l[k]).2 ≠ 0 → errB n l = (bksE (n + k) l[k]).2
  | f :: l, n, 0, _, _, h => by
    unfold errB
    have h : (bksE n f).2 ≠ 0 := h
    rw [if_neg h]; rfl
  | f :: l, n, k + 1, hk, h0, h => by
    unfold errB
    have h1 : (bksE n f).2 = 0 := h0 0 (by omega)
    rw [if_pos h1]
    have := errB_first l (n + 1) k (by simpa using hk) (fun j hj => by have := h0 (j + 1) (by omega); rw [show n + 1 + j = n + (j + 1) by omega]; simpa using this) (by rw [show n + 1 + k = n + (k + 1) by omega]; simpa using h)
    rw [this, show n + 1 + k = n + (k + 1) by omega]; rfl
theorem errB_none : ∀ (l : List FilT) (n : Nat), (∀ j (h : j < l.length), (bksE (n + j) l[j]).2 = 0) → errB n l = 0
  | [], n, _ => rfl
  | f :: l, n, h => by
    unfold errB
    have h1 : (bksE n f).2 = 0 := h 0 (by simp)
    rw [if_pos h1]
    exact errB_none l (n + 1) (fun j hj => by have := h (j + 1) (by simpa using hj); rw [show n + 1 + j = n + (j + 1) by omega]; simpa using this)
theorem bks_len (n : Nat) (f : FilT) : (bksE n f).1.length ≤ 5010 := by
  have h := blkE_len f.dcb f.recs
  unfold bksE
  split
  · split
    · simp only [blocksT, List.length_append, List.length_map]
      have h1 : (pairT hdrS n 0 f).length = 2 := rfl
      have h2 : (pairT eofS n (blkE f.dcb f.recs).1.length f).length = 2 := rfl
      rw [h1, h2]; simp; omega
    · simp
  · simp
theorem allB_len : ∀ (l : List FilT) (n : Nat), (allB n l).length ≤ l.length * 5010
  | [], n => by simp [allB]
  | f :: l, n => by
    have := bks_len n f
    have := allB_len l (n + 1)
    simp only [allB, List.length_append, List.length_cons, Nat.succ_mul]; omega
def volT (serial : Tb) : TbT := labT ([86, 79, 76, 49] ++ serial)
def wrtE (serial : Tb) (l : List FilT) : List TbT × Int :=
  if serT serial = true then (if errB 0 l = 0 then (if 1 + (allB 0 l).length < 4096 then (volT serial :: allB 0 l ++ [mrkT], 0) else ([], 2)) else ([], errB 0 l)) else ([], 1)
theorem wrtE_snd (serial : Tb) (l : List FilT) (hs : serT serial = true) : (wrtE serial l).2 = if errB 0 l = 0 then (if 1 + (allB 0 l).length < 4096 then 0 else 2) else errB 0 l := by
  unfold wrtE
  rw [if_pos hs]
  by_cases q1 : errB 0 l = 0
  · rw [if_pos q1, if_pos q1]
    by_cases q2 : 1 + (allB 0 l).length < 4096
    · rw [if_pos q2, if_pos q2]
    · rw [if_neg q2, if_neg q2]
  · rw [if_neg q1, if_neg q1]
structure FilS (f : FilT) : Prop where
  r : f.recs.length ≤ 4096
  n : f.name.length ≤ 1000000
theorem cap_okC : ∀ n < 256, capC (UInt8.ofNat n) = true → okC (UInt8.ofNat n) = true := by decide +kernel
theorem ser_txt {s : Tb} (h : serT s = true) : txtT s = true ∧ s.length ≤ 6 := by
  unfold serT at h
  simp only [Bool.and_eq_true, decide_eq_true_eq] at h
  refine ⟨?_, h.1.2⟩
  unfold txtT
  rw [List.all_eq_true]
  intro c hc
  have := cap_okC c.toNat c.toNat_lt
  rw [UInt8.ofNat_toNat] at this
  exact this (List.all_eq_true.1 h.2 c hc)
set_option maxHeartbeats 16000000 in
set_option maxRecDepth 4000 in
theorem Write_B (serial : Tb) (l : List FilT) (hn : l.length < 9999) (hfs : ∀ f ∈ l, FilS f) (hs : serT serial = true) (he : errB 0 l = 0) (hfit : 1 + (allB 0 l).length < 4096) :
    SpecB Tryz.prog 10 [.str serial, .sl 10 (l.map filC)] [] (.tup [.own 17 ((allB 0 l).length + 2), .int .i64 0]) [(17, .arr 3 48 ((volT serial :: allB 0 l ++ [mrkT]).map tbC))] := by
  have hser := Serial_spec serial
  rw [hs] at hser
  obtain ⟨st, sl⟩ := ser_txt hs
  have hvol := label_spec ([86, 79, 76, 49] ++ serial) (by rw [txt_app, st]; rfl) (by simp; omega)
  have hvl : tbC (volT serial) = [.bool false, .sl 1 ((encT (padB ([86, 79, 76, 49] ++ serial) 80)).map u8c), .bool false] := by simp only [volT, labT, tbC, u8V]
  have hvl2 : tbC (labT ([86, 79, 76, 49] ++ serial)) = [.bool false, .sl 1 ((encT (padB ([86, 79, 76, 49] ++ serial) 80)).map u8c), .bool false] := by simp only [volT, labT, tbC, u8V]
  rw [hvl2] at hvol
  obtain ⟨A, hA⟩ : ∃ A : Nat → List (List V), ∀ k, A k = (allB 0 (l.take k)).map tbC := ⟨_, fun _ => rfl⟩
  have hAl : ∀ k, k ≤ l.length → (A k).length ≤ 50094990 := fun k hk => by
    rw [hA, List.length_map]
    have h1 := allB_len (l.take k) 0
    have h2 : (l.take k).length ≤ 9999 := by rw [List.length_take]; omega
    exact Nat.le_trans h1 (Nat.le_trans (Nat.mul_le_mul h2 (Nat.le_refl 5010)) (Nat.le_of_ble_eq_true rfl))
  have hA0 : A 0 = [] := by rw [hA]; rfl
  have hA1 : ∀ k (hk : k < l.length), A (k + 1) = A k ++ (bksE k l[k]).1.map tbC := fun k hk => by
    rw [hA, hA, List.take_succ_eq_append_getElem hk, allB_app, List.map_append, List.length_take, Nat.min_eq_left (by omega)]
    simp [allB]
  have hAn : A l.length = (allB 0 l).map tbC := by rw [hA, List.take_length]
  have hmk : tbC mrkT = [.bool true, .sl 1 [], .bool false] := rfl
  rw [List.map_append, List.map_cons, hvl, ← hAn, List.map_singleton, hmk, show (allB 0 l).length = (A l.length).length by rw [hAn, List.length_map]]
  generalize (encT (padB ([86, 79, 76, 49] ++ serial) 80)).map u8c = VB at *
  refine specB_of tt_ok Tryz.func10 rfl (by decide) Tryz.ntmps10 (congrArg Array.toList Tryz.results10) (by simp) (by decide) rfl (by simp only [go_sem, Int.reduceEq, Int.reduceNe, Int.reduceLT, Int.reduceLE, Nat.reduceEqDiff, Nat.reduceAdd, Nat.reduceMul, Nat.reduceLT, Nat.reduceLeDiff, Nat.reduceSub, reduceCtorEq, reduceIte, Int.reduceToNat, beq_self_eq_true, Bool.and_self, List.length_append]) (fun F hF => ?_)
  refine vwp_seq_k fun Na hNa => vreg tt_ok hF rfl ?_; simp only [go_sem, Int.reduceEq, Int.reduceNe, Int.reduceLT, Int.reduceLE, Nat.reduceEqDiff, Nat.reduceAdd, Nat.reduceMul, Nat.reduceLT, Nat.reduceLeDiff, Nat.reduceSub, reduceCtorEq, reduceIte, Int.reduceToNat, beq_self_eq_true, Bool.and_self, List.length_append]
  refine hNa _ (VWp.keep [0,1] [] ?_); simp only [go_sem, Int.reduceEq, Int.reduceNe, Int.reduceLT, Int.reduceLE, Nat.reduceEqDiff, Nat.reduceAdd, Nat.reduceMul, Nat.reduceLT, Nat.reduceLeDiff, Nat.reduceSub, reduceCtorEq, reduceIte, Int.reduceToNat, beq_self_eq_true, Bool.and_self, List.length_append]
  refine vwp_seq_k fun Nb hNb => ?_
  refine vwp_seq_k fun Nc hNc => vreg tt_ok hF rfl ?_; simp only [go_sem, Int.reduceEq, Int.reduceNe, Int.reduceLT, Int.reduceLE, Nat.reduceEqDiff, Nat.reduceAdd, Nat.reduceMul, Nat.reduceLT, Nat.reduceLeDiff, Nat.reduceSub, reduceCtorEq, reduceIte, Int.reduceToNat, beq_self_eq_true, Bool.and_self, List.length_append]
  refine .inl ⟨_, hser, ?_⟩; try simp only [go_sem, Int.reduceEq, Int.reduceNe, Int.reduceLT, Int.reduceLE, Nat.reduceEqDiff, Nat.reduceAdd, Nat.reduceMul, Nat.reduceLT, Nat.reduceLeDiff, Nat.reduceSub, reduceCtorEq, reduceIte, Int.reduceToNat, beq_self_eq_true, Bool.and_self, List.length_append]
  refine hNc _ (VWp.keep [0,1,13] [] ?_); simp only [go_sem, Int.reduceEq, Int.reduceNe, Int.reduceLT, Int.reduceLE, Nat.reduceEqDiff, Nat.reduceAdd, Nat.reduceMul, Nat.reduceLT, Nat.reduceLeDiff, Nat.reduceSub, reduceCtorEq, reduceIte, Int.reduceToNat, beq_self_eq_true, Bool.and_self, List.length_append]
  refine vif rfl ⟨(fun ht => by cases ht), fun hf => ?_⟩
  refine vwp_skip (hNb _ ?_)
  refine vwp_seq_k fun Ne hNe => vreg tt_ok hF rfl ?_; simp only [go_sem, Int.reduceEq, Int.reduceNe, Int.reduceLT, Int.reduceLE, Nat.reduceEqDiff, Nat.reduceAdd, Nat.reduceMul, Nat.reduceLT, Nat.reduceLeDiff, Nat.reduceSub, reduceCtorEq, reduceIte, Int.reduceToNat, beq_self_eq_true, Bool.and_self, List.length_append]
  refine ⟨by omega, ?_⟩
  refine .inl ⟨_, hvol, ?_⟩; try simp only [go_sem, Int.reduceEq, Int.reduceNe, Int.reduceLT, Int.reduceLE, Nat.reduceEqDiff, Nat.reduceAdd, Nat.reduceMul, Nat.reduceLT, Nat.reduceLeDiff, Nat.reduceSub, reduceCtorEq, reduceIte, Int.reduceToNat, beq_self_eq_true, Bool.and_self, List.length_append]
  refine hNe _ (VWp.keep [1,6] [17] ?_); simp only [go_sem, Int.reduceEq, Int.reduceNe, Int.reduceLT, Int.reduceLE, Nat.reduceEqDiff, Nat.reduceAdd, Nat.reduceMul, Nat.reduceLT, Nat.reduceLeDiff, Nat.reduceSub, reduceCtorEq, reduceIte, Int.reduceToNat, beq_self_eq_true, Bool.and_self, List.length_append]
  refine vwp_seq_k fun Nf hNf => ?_
  refine vwp_seq_k fun Ng hNg => vreg tt_ok hF rfl ?_; simp only [go_sem, Int.reduceEq, Int.reduceNe, Int.reduceLT, Int.reduceLE, Nat.reduceEqDiff, Nat.reduceAdd, Nat.reduceMul, Nat.reduceLT, Nat.reduceLeDiff, Nat.reduceSub, reduceCtorEq, reduceIte, Int.reduceToNat, beq_self_eq_true, Bool.and_self, List.length_append]
  refine hNg _ (VWp.keep [6,18,19,20] [17] ?_); simp only [go_sem, Int.reduceEq, Int.reduceNe, Int.reduceLT, Int.reduceLE, Nat.reduceEqDiff, Nat.reduceAdd, Nat.reduceMul, Nat.reduceLT, Nat.reduceLeDiff, Nat.reduceSub, reduceCtorEq, reduceIte, Int.reduceToNat, beq_self_eq_true, Bool.and_self, List.length_append]
  refine vwp_block (vloop (fun k : Nat => [(6, .own 17 ((A k).length + 1)), (18, .sl 10 (l.map filC)), (19, .int .i64 (l.length : Int)), (20, .int .i64 (k : Int))]) (fun k => [(17, .arr 3 48 ([V.bool false, .sl 1 VB, .bool false] :: A k))])
    (fun k => k ≤ l.length ∧ ∀ j (h : j < k) (h2 : j < l.length), (bksE j l[j]).2 = 0) (fun k => l.length - k) 0 ⟨Nat.zero_le _, fun j h => absurd h (by omega)⟩ (by simp only [hA0, List.length_nil, List.length_map, Nat.zero_add, go_sem, Int.reduceEq, Int.reduceNe, Int.reduceLT, Int.reduceLE, Nat.reduceEqDiff, Nat.reduceAdd, Nat.reduceMul, Nat.reduceLT, Nat.reduceLeDiff, Nat.reduceSub, reduceCtorEq, reduceIte, Int.reduceToNat, beq_self_eq_true, Bool.and_self, List.length_append]) ?_)
  rintro k ⟨hk, hall⟩
  have hak := hAl k hk
  refine vwp_seq_k fun Nh hNh => vreg tt_ok hF rfl ?_; simp only [go_sem, Int.reduceEq, Int.reduceNe, Int.reduceLT, Int.reduceLE, Nat.reduceEqDiff, Nat.reduceAdd, Nat.reduceMul, Nat.reduceLT, Nat.reduceLeDiff, Nat.reduceSub, reduceCtorEq, reduceIte, Int.reduceToNat, beq_self_eq_true, Bool.and_self, List.length_append]
  refine hNh _ (VWp.keep [6,18,19,20,21] [17] ?_); simp only [go_sem, Int.reduceEq, Int.reduceNe, Int.reduceLT, Int.reduceLE, Nat.reduceEqDiff, Nat.reduceAdd, Nat.reduceMul, Nat.reduceLT, Nat.reduceLeDiff, Nat.reduceSub, reduceCtorEq, reduceIte, Int.reduceToNat, beq_self_eq_true, Bool.and_self, List.length_append]
  refine vwp_seq_k fun Ni hNi => ?_
  refine vif rfl ⟨fun ht => ?_, fun hf => ?_⟩
  · have hlt : k < l.length := by have := of_decide_eq_true ht; omega
    obtain ⟨fr, fnm⟩ := hfs l[k] (List.getElem_mem hlt)
    have hbk := blocks_spec k (by omega) l[k] fr fnm
    have hbl := bks_len k l[k]
    have hstep := hA1 k hlt
    have hget : (l.map filC).getD k [] = filC l[k] := by simp [List.getD_eq_getElem?_getD, List.getElem?_eq_getElem hlt]
    generalize hf0 : l[k] = f at *
    obtain ⟨B, hB⟩ : ∃ B, bksE k f = B := ⟨_, rfl⟩
    rw [hB] at hbk hbl hstep
    obtain ⟨rows, e⟩ := B
    simp only at hbk hbl hstep
    unfold filV at hbk
    simp only [filC] at hbk hget
    refine vwp_skip (hNi _ ?_)
    refine vwp_seq_k fun Nj hNj => ?_
    refine vwp_block ?_
    refine vwp_seq_k fun Nk hNk => vreg tt_ok hF rfl ?_; simp only [go_sem, Int.reduceEq, Int.reduceNe, Int.reduceLT, Int.reduceLE, Nat.reduceEqDiff, Nat.reduceAdd, Nat.reduceMul, Nat.reduceLT, Nat.reduceLeDiff, Nat.reduceSub, reduceCtorEq, reduceIte, Int.reduceToNat, beq_self_eq_true, Bool.and_self, List.length_append]
    simp only [hget, List.length_map, go_sem, Int.reduceEq, Int.reduceNe, Int.reduceLT, Int.reduceLE, Nat.reduceEqDiff, Nat.reduceAdd, Nat.reduceMul, Nat.reduceLT, Nat.reduceLeDiff, Nat.reduceSub, reduceCtorEq, reduceIte, Int.reduceToNat, beq_self_eq_true, Bool.and_self, List.length_append]
    refine ⟨⟨by omega, by omega⟩, ?_⟩
    refine hNk _ (VWp.keepR [6,7,8,18,19,20] [8,17] tt_ok hF rfl fun Nl hNl => ?_); simp only [go_sem, Int.reduceEq, Int.reduceNe, Int.reduceLT, Int.reduceLE, Nat.reduceEqDiff, Nat.reduceAdd, Nat.reduceMul, Nat.reduceLT, Nat.reduceLeDiff, Nat.reduceSub, reduceCtorEq, reduceIte, Int.reduceToNat, beq_self_eq_true, Bool.and_self, List.length_append]
    refine .inl ⟨_, hbk, ?_⟩; try simp only [go_sem, Int.reduceEq, Int.reduceNe, Int.reduceLT, Int.reduceLE, Nat.reduceEqDiff, Nat.reduceAdd, Nat.reduceMul, Nat.reduceLT, Nat.reduceLeDiff, Nat.reduceSub, reduceCtorEq, reduceIte, Int.reduceToNat, beq_self_eq_true, Bool.and_self, List.length_append]
    refine hNl _ (VWp.keep [6,9,10,18,19,20] [17] ?_); simp only [go_sem, Int.reduceEq, Int.reduceNe, Int.reduceLT, Int.reduceLE, Nat.reduceEqDiff, Nat.reduceAdd, Nat.reduceMul, Nat.reduceLT, Nat.reduceLeDiff, Nat.reduceSub, reduceCtorEq, reduceIte, Int.reduceToNat, beq_self_eq_true, Bool.and_self, List.length_append]
    refine vwp_seq_k fun Nm hNm => ?_
    refine vwp_seq_k fun Nn hNn => vreg tt_ok hF rfl ?_; simp only [go_sem, Int.reduceEq, Int.reduceNe, Int.reduceLT, Int.reduceLE, Nat.reduceEqDiff, Nat.reduceAdd, Nat.reduceMul, Nat.reduceLT, Nat.reduceLeDiff, Nat.reduceSub, reduceCtorEq, reduceIte, Int.reduceToNat, beq_self_eq_true, Bool.and_self, List.length_append]
    refine hNn _ (VWp.keep [6,9,10,18,19,20,32] [17] ?_); simp only [go_sem, Int.reduceEq, Int.reduceNe, Int.reduceLT, Int.reduceLE, Nat.reduceEqDiff, Nat.reduceAdd, Nat.reduceMul, Nat.reduceLT, Nat.reduceLeDiff, Nat.reduceSub, reduceCtorEq, reduceIte, Int.reduceToNat, beq_self_eq_true, Bool.and_self, List.length_append]
    refine vif rfl ⟨fun ht2 => ?_, fun hf2 => ?_⟩
    · have hne : e ≠ 0 := by simpa using ht2
      exfalso
      have h1 := errB_first l 0 k hlt (fun j h => by have := hall j h (by omega); simpa using this) (by rw [Nat.zero_add, hf0, hB]; exact hne)
      rw [he, Nat.zero_add, hf0, hB] at h1
      exact hne h1.symm
    · have he0 : e = 0 := by simpa using hf2
      refine vwp_skip (hNm _ ?_)
      refine vreg tt_ok hF rfl ?_; simp only [go_sem, Int.reduceEq, Int.reduceNe, Int.reduceLT, Int.reduceLE, Nat.reduceEqDiff, Nat.reduceAdd, Nat.reduceMul, Nat.reduceLT, Nat.reduceLeDiff, Nat.reduceSub, reduceCtorEq, reduceIte, Int.reduceToNat, beq_self_eq_true, Bool.and_self, List.length_append]
      refine ⟨by first | omega | (simp; omega), ?_⟩
      rw [← hstep]
      have hsl : (A k).length + rows.length = (A (k + 1)).length := by rw [hstep, List.length_append, List.length_map]
      refine hNj _ (VWp.keep [6,18,19,20] [17] ?_); simp only [go_sem, Int.reduceEq, Int.reduceNe, Int.reduceLT, Int.reduceLE, Nat.reduceEqDiff, Nat.reduceAdd, Nat.reduceMul, Nat.reduceLT, Nat.reduceLeDiff, Nat.reduceSub, reduceCtorEq, reduceIte, Int.reduceToNat, beq_self_eq_true, Bool.and_self, List.length_append]
      rw [hsl]
      refine ⟨Nat.le_refl _, ?_⟩
      refine vreg tt_ok hF rfl ?_; simp only [go_sem, Int.reduceEq, Int.reduceNe, Int.reduceLT, Int.reduceLE, Nat.reduceEqDiff, Nat.reduceAdd, Nat.reduceMul, Nat.reduceLT, Nat.reduceLeDiff, Nat.reduceSub, reduceCtorEq, reduceIte, Int.reduceToNat, beq_self_eq_true, Bool.and_self, List.length_append]
      rw [wrap_i64 (by omega) (by omega)]
      refine ⟨k + 1, ⟨by omega, fun j h h2 => ?_⟩, by omega, by simp⟩
      rcases Nat.lt_or_ge j k with q | q
      · exact hall j q h2
      · have : j = k := by omega
        subst this
        rw [hf0, hB]; exact he0
  · have hkl : k = l.length := by have := of_decide_eq_false hf; omega
    subst hkl
    have hAm : (A l.length).length = (allB 0 l).length := by rw [hAn, List.length_map]
    refine vwp_exit ?_
    simp only [go_sem, Int.reduceEq, Int.reduceNe, Int.reduceLT, Int.reduceLE, Nat.reduceEqDiff, Nat.reduceAdd, Nat.reduceMul, Nat.reduceLT, Nat.reduceLeDiff, Nat.reduceSub, reduceCtorEq, reduceIte, Int.reduceToNat, beq_self_eq_true, Bool.and_self, List.length_append]
    refine hNf _ (VWp.keep [6] [17] ?_); simp only [go_sem, Int.reduceEq, Int.reduceNe, Int.reduceLT, Int.reduceLE, Nat.reduceEqDiff, Nat.reduceAdd, Nat.reduceMul, Nat.reduceLT, Nat.reduceLeDiff, Nat.reduceSub, reduceCtorEq, reduceIte, Int.reduceToNat, beq_self_eq_true, Bool.and_self, List.length_append]
    have hfin := finish_B ([V.bool false, .sl 1 VB, .bool false] :: A l.length) (fun r hr => by
      rcases List.mem_cons.1 hr with q | q
      · rw [q]; rfl
      · rw [hAn] at q; obtain ⟨_, _, rfl⟩ := List.mem_map.1 q; rfl) (by rw [List.length_cons]; omega)
    rw [hmk] at hfin
    simp only [List.length_cons, List.cons_append] at hfin
    refine vwp_seq_k fun Np hNp => vreg tt_ok hF rfl ?_; simp only [go_sem, Int.reduceEq, Int.reduceNe, Int.reduceLT, Int.reduceLE, Nat.reduceEqDiff, Nat.reduceAdd, Nat.reduceMul, Nat.reduceLT, Nat.reduceLeDiff, Nat.reduceSub, reduceCtorEq, reduceIte, Int.reduceToNat, beq_self_eq_true, Bool.and_self, List.length_append]
    refine .inr (bxo [(1000000, 17)] rfl ?_); simp only [go_sem, Int.reduceEq, Int.reduceNe, Int.reduceLT, Int.reduceLE, Nat.reduceEqDiff, Nat.reduceAdd, Nat.reduceMul, Nat.reduceLT, Nat.reduceLeDiff, Nat.reduceSub, reduceCtorEq, reduceIte, Int.reduceToNat, beq_self_eq_true, Bool.and_self, List.length_append]; refine ⟨_, _, hfin, ?_⟩; try simp only [go_sem, Int.reduceEq, Int.reduceNe, Int.reduceLT, Int.reduceLE, Nat.reduceEqDiff, Nat.reduceAdd, Nat.reduceMul, Nat.reduceLT, Nat.reduceLeDiff, Nat.reduceSub, reduceCtorEq, reduceIte, Int.reduceToNat, beq_self_eq_true, Bool.and_self, List.length_append]
    refine hNp _ (VWp.keep [4,5] [17] ?_); simp only [go_sem, Int.reduceEq, Int.reduceNe, Int.reduceLT, Int.reduceLE, Nat.reduceEqDiff, Nat.reduceAdd, Nat.reduceMul, Nat.reduceLT, Nat.reduceLeDiff, Nat.reduceSub, reduceCtorEq, reduceIte, Int.reduceToNat, beq_self_eq_true, Bool.and_self, List.length_append]
    refine vwp_ret ?_
    simp only [go_sem, Int.reduceEq, Int.reduceNe, Int.reduceLT, Int.reduceLE, Nat.reduceEqDiff, Nat.reduceAdd, Nat.reduceMul, Nat.reduceLT, Nat.reduceLeDiff, Nat.reduceSub, reduceCtorEq, reduceIte, Int.reduceToNat, beq_self_eq_true, Bool.and_self, List.length_append]
    first | exact LeV.refl _ | exact ⟨LeV.refl _, by simp⟩
set_option maxHeartbeats 16000000 in
set_option maxRecDepth 4000 in
theorem Write_err (serial : Tb) (l : List FilT) (hn : l.length < 9999) (hfs : ∀ f ∈ l, FilS f) (hbad : (wrtE serial l).2 ≠ 0) :
    Spec Tryz.prog 10 [.str serial, .sl 10 (l.map filC)] (.tup [.sl 3 [], .int .i64 (wrtE serial l).2]) := by
  cases hs : serT serial with
  | false =>
    have e : (wrtE serial l).2 = 1 := by unfold wrtE; rw [hs]; rfl
    have hser := Serial_spec serial
    rw [hs] at hser
    rw [e]
    refine spec_of tt_ok Tryz.func10 rfl (by decide) Tryz.ntmps10 (congrArg Array.toList Tryz.results10) (by simp) (by decide) rfl rfl (fun F hF => ?_)
    refine vwp_seq_k fun Na hNa => vreg tt_ok hF rfl ?_; simp only [go_sem, Int.reduceEq, Int.reduceNe, Int.reduceLT, Int.reduceLE, Nat.reduceEqDiff, Nat.reduceAdd, Nat.reduceMul, Nat.reduceLT, Nat.reduceLeDiff, Nat.reduceSub, reduceCtorEq, reduceIte, Int.reduceToNat, beq_self_eq_true, Bool.and_self, List.length_append]
    refine hNa _ (VWp.keep [0,1] [] ?_); simp only [go_sem, Int.reduceEq, Int.reduceNe, Int.reduceLT, Int.reduceLE, Nat.reduceEqDiff, Nat.reduceAdd, Nat.reduceMul, Nat.reduceLT, Nat.reduceLeDiff, Nat.reduceSub, reduceCtorEq, reduceIte, Int.reduceToNat, beq_self_eq_true, Bool.and_self, List.length_append]
    refine vwp_seq_k fun Nb hNb => ?_
    refine vwp_seq_k fun Nc hNc => vreg tt_ok hF rfl ?_; simp only [go_sem, Int.reduceEq, Int.reduceNe, Int.reduceLT, Int.reduceLE, Nat.reduceEqDiff, Nat.reduceAdd, Nat.reduceMul, Nat.reduceLT, Nat.reduceLeDiff, Nat.reduceSub, reduceCtorEq, reduceIte, Int.reduceToNat, beq_self_eq_true, Bool.and_self, List.length_append]
    refine .inl ⟨_, hser, ?_⟩; try simp only [go_sem, Int.reduceEq, Int.reduceNe, Int.reduceLT, Int.reduceLE, Nat.reduceEqDiff, Nat.reduceAdd, Nat.reduceMul, Nat.reduceLT, Nat.reduceLeDiff, Nat.reduceSub, reduceCtorEq, reduceIte, Int.reduceToNat, beq_self_eq_true, Bool.and_self, List.length_append]
    refine hNc _ (VWp.keep [0,1,13] [] ?_); simp only [go_sem, Int.reduceEq, Int.reduceNe, Int.reduceLT, Int.reduceLE, Nat.reduceEqDiff, Nat.reduceAdd, Nat.reduceMul, Nat.reduceLT, Nat.reduceLeDiff, Nat.reduceSub, reduceCtorEq, reduceIte, Int.reduceToNat, beq_self_eq_true, Bool.and_self, List.length_append]
    refine vif rfl ⟨fun _ => ?_, (fun hf => by cases hf)⟩
    refine vwp_seq_k fun Nd hNd => vreg tt_ok hF rfl ?_; simp only [go_sem, Int.reduceEq, Int.reduceNe, Int.reduceLT, Int.reduceLE, Nat.reduceEqDiff, Nat.reduceAdd, Nat.reduceMul, Nat.reduceLT, Nat.reduceLeDiff, Nat.reduceSub, reduceCtorEq, reduceIte, Int.reduceToNat, beq_self_eq_true, Bool.and_self, List.length_append]
    refine hNd _ (VWp.keep [4,5] [] ?_); simp only [go_sem, Int.reduceEq, Int.reduceNe, Int.reduceLT, Int.reduceLE, Nat.reduceEqDiff, Nat.reduceAdd, Nat.reduceMul, Nat.reduceLT, Nat.reduceLeDiff, Nat.reduceSub, reduceCtorEq, reduceIte, Int.reduceToNat, beq_self_eq_true, Bool.and_self, List.length_append]
    refine vwp_ret ?_
    simp only [go_sem, Int.reduceEq, Int.reduceNe, Int.reduceLT, Int.reduceLE, Nat.reduceEqDiff, Nat.reduceAdd, Nat.reduceMul, Nat.reduceLT, Nat.reduceLeDiff, Nat.reduceSub, reduceCtorEq, reduceIte, Int.reduceToNat, beq_self_eq_true, Bool.and_self, List.length_append]
    exact LeV.tup ⟨LeV.nil _, LeV.refl _, trivial⟩
  | true =>
  have ewr := wrtE_snd serial l hs
  rw [ewr] at hbad ⊢
  have hser := Serial_spec serial
  rw [hs] at hser
  obtain ⟨st, sl⟩ := ser_txt hs
  have hvol := label_spec ([86, 79, 76, 49] ++ serial) (by rw [txt_app, st]; rfl) (by simp; omega)
  have hvl : tbC (volT serial) = [.bool false, .sl 1 ((encT (padB ([86, 79, 76, 49] ++ serial) 80)).map u8c), .bool false] := by simp only [volT, labT, tbC, u8V]
  have hvl2 : tbC (labT ([86, 79, 76, 49] ++ serial)) = [.bool false, .sl 1 ((encT (padB ([86, 79, 76, 49] ++ serial) 80)).map u8c), .bool false] := by simp only [volT, labT, tbC, u8V]
  rw [hvl2] at hvol
  obtain ⟨A, hA⟩ : ∃ A : Nat → List (List V), ∀ k, A k = (allB 0 (l.take k)).map tbC := ⟨_, fun _ => rfl⟩
  have hAl : ∀ k, k ≤ l.length → (A k).length ≤ 50094990 := fun k hk => by
    rw [hA, List.length_map]
    have h1 := allB_len (l.take k) 0
    have h2 : (l.take k).length ≤ 9999 := by rw [List.length_take]; omega
    exact Nat.le_trans h1 (Nat.le_trans (Nat.mul_le_mul h2 (Nat.le_refl 5010)) (Nat.le_of_ble_eq_true rfl))
  have hA0 : A 0 = [] := by rw [hA]; rfl
  have hA1 : ∀ k (hk : k < l.length), A (k + 1) = A k ++ (bksE k l[k]).1.map tbC := fun k hk => by
    rw [hA, hA, List.take_succ_eq_append_getElem hk, allB_app, List.map_append, List.length_take, Nat.min_eq_left (by omega)]
    simp [allB]
  have hAn : A l.length = (allB 0 l).map tbC := by rw [hA, List.take_length]
  have hmk : tbC mrkT = [.bool true, .sl 1 [], .bool false] := rfl
  generalize (encT (padB ([86, 79, 76, 49] ++ serial) 80)).map u8c = VB at *
  refine spec_of tt_ok Tryz.func10 rfl (by decide) Tryz.ntmps10 (congrArg Array.toList Tryz.results10) (by simp) (by decide) rfl rfl (fun F hF => ?_)
  refine vwp_seq_k fun Na hNa => vreg tt_ok hF rfl ?_; simp only [go_sem, Int.reduceEq, Int.reduceNe, Int.reduceLT, Int.reduceLE, Nat.reduceEqDiff, Nat.reduceAdd, Nat.reduceMul, Nat.reduceLT, Nat.reduceLeDiff, Nat.reduceSub, reduceCtorEq, reduceIte, Int.reduceToNat, beq_self_eq_true, Bool.and_self, List.length_append]
  refine hNa _ (VWp.keep [0,1] [] ?_); simp only [go_sem, Int.reduceEq, Int.reduceNe, Int.reduceLT, Int.reduceLE, Nat.reduceEqDiff, Nat.reduceAdd, Nat.reduceMul, Nat.reduceLT, Nat.reduceLeDiff, Nat.reduceSub, reduceCtorEq, reduceIte, Int.reduceToNat, beq_self_eq_true, Bool.and_self, List.length_append]
  refine vwp_seq_k fun Nb hNb => ?_
  refine vwp_seq_k fun Nc hNc => vreg tt_ok hF rfl ?_; simp only [go_sem, Int.reduceEq, Int.reduceNe, Int.reduceLT, Int.reduceLE, Nat.reduceEqDiff, Nat.reduceAdd, Nat.reduceMul, Nat.reduceLT, Nat.reduceLeDiff, Nat.reduceSub, reduceCtorEq, reduceIte, Int.reduceToNat, beq_self_eq_true, Bool.and_self, List.length_append]
  refine .inl ⟨_, hser, ?_⟩; try simp only [go_sem, Int.reduceEq, Int.reduceNe, Int.reduceLT, Int.reduceLE, Nat.reduceEqDiff, Nat.reduceAdd, Nat.reduceMul, Nat.reduceLT, Nat.reduceLeDiff, Nat.reduceSub, reduceCtorEq, reduceIte, Int.reduceToNat, beq_self_eq_true, Bool.and_self, List.length_append]
  refine hNc _ (VWp.keep [0,1,13] [] ?_); simp only [go_sem, Int.reduceEq, Int.reduceNe, Int.reduceLT, Int.reduceLE, Nat.reduceEqDiff, Nat.reduceAdd, Nat.reduceMul, Nat.reduceLT, Nat.reduceLeDiff, Nat.reduceSub, reduceCtorEq, reduceIte, Int.reduceToNat, beq_self_eq_true, Bool.and_self, List.length_append]
  refine vif rfl ⟨(fun ht => by cases ht), fun hf => ?_⟩
  refine vwp_skip (hNb _ ?_)
  refine vwp_seq_k fun Ne hNe => vreg tt_ok hF rfl ?_; simp only [go_sem, Int.reduceEq, Int.reduceNe, Int.reduceLT, Int.reduceLE, Nat.reduceEqDiff, Nat.reduceAdd, Nat.reduceMul, Nat.reduceLT, Nat.reduceLeDiff, Nat.reduceSub, reduceCtorEq, reduceIte, Int.reduceToNat, beq_self_eq_true, Bool.and_self, List.length_append]
  refine ⟨by omega, ?_⟩
  refine .inl ⟨_, hvol, ?_⟩; try simp only [go_sem, Int.reduceEq, Int.reduceNe, Int.reduceLT, Int.reduceLE, Nat.reduceEqDiff, Nat.reduceAdd, Nat.reduceMul, Nat.reduceLT, Nat.reduceLeDiff, Nat.reduceSub, reduceCtorEq, reduceIte, Int.reduceToNat, beq_self_eq_true, Bool.and_self, List.length_append]
  refine hNe _ (VWp.keep [1,6] [17] ?_); simp only [go_sem, Int.reduceEq, Int.reduceNe, Int.reduceLT, Int.reduceLE, Nat.reduceEqDiff, Nat.reduceAdd, Nat.reduceMul, Nat.reduceLT, Nat.reduceLeDiff, Nat.reduceSub, reduceCtorEq, reduceIte, Int.reduceToNat, beq_self_eq_true, Bool.and_self, List.length_append]
  refine vwp_seq_k fun Nf hNf => ?_
  refine vwp_seq_k fun Ng hNg => vreg tt_ok hF rfl ?_; simp only [go_sem, Int.reduceEq, Int.reduceNe, Int.reduceLT, Int.reduceLE, Nat.reduceEqDiff, Nat.reduceAdd, Nat.reduceMul, Nat.reduceLT, Nat.reduceLeDiff, Nat.reduceSub, reduceCtorEq, reduceIte, Int.reduceToNat, beq_self_eq_true, Bool.and_self, List.length_append]
  refine hNg _ (VWp.keep [6,18,19,20] [17] ?_); simp only [go_sem, Int.reduceEq, Int.reduceNe, Int.reduceLT, Int.reduceLE, Nat.reduceEqDiff, Nat.reduceAdd, Nat.reduceMul, Nat.reduceLT, Nat.reduceLeDiff, Nat.reduceSub, reduceCtorEq, reduceIte, Int.reduceToNat, beq_self_eq_true, Bool.and_self, List.length_append]
  refine vwp_block (vloop (fun k : Nat => [(6, .own 17 ((A k).length + 1)), (18, .sl 10 (l.map filC)), (19, .int .i64 (l.length : Int)), (20, .int .i64 (k : Int))]) (fun k => [(17, .arr 3 48 ([V.bool false, .sl 1 VB, .bool false] :: A k))])
    (fun k => k ≤ l.length ∧ ∀ j (h : j < k) (h2 : j < l.length), (bksE j l[j]).2 = 0) (fun k => l.length - k) 0 ⟨Nat.zero_le _, fun j h => absurd h (by omega)⟩ (by simp only [hA0, List.length_nil, List.length_map, Nat.zero_add, go_sem, Int.reduceEq, Int.reduceNe, Int.reduceLT, Int.reduceLE, Nat.reduceEqDiff, Nat.reduceAdd, Nat.reduceMul, Nat.reduceLT, Nat.reduceLeDiff, Nat.reduceSub, reduceCtorEq, reduceIte, Int.reduceToNat, beq_self_eq_true, Bool.and_self, List.length_append]) ?_)
  rintro k ⟨hk, hall⟩
  have hak := hAl k hk
  refine vwp_seq_k fun Nh hNh => vreg tt_ok hF rfl ?_; simp only [go_sem, Int.reduceEq, Int.reduceNe, Int.reduceLT, Int.reduceLE, Nat.reduceEqDiff, Nat.reduceAdd, Nat.reduceMul, Nat.reduceLT, Nat.reduceLeDiff, Nat.reduceSub, reduceCtorEq, reduceIte, Int.reduceToNat, beq_self_eq_true, Bool.and_self, List.length_append]
  refine hNh _ (VWp.keep [6,18,19,20,21] [17] ?_); simp only [go_sem, Int.reduceEq, Int.reduceNe, Int.reduceLT, Int.reduceLE, Nat.reduceEqDiff, Nat.reduceAdd, Nat.reduceMul, Nat.reduceLT, Nat.reduceLeDiff, Nat.reduceSub, reduceCtorEq, reduceIte, Int.reduceToNat, beq_self_eq_true, Bool.and_self, List.length_append]
  refine vwp_seq_k fun Ni hNi => ?_
  refine vif rfl ⟨fun ht => ?_, fun hf => ?_⟩
  · have hlt : k < l.length := by have := of_decide_eq_true ht; omega
    obtain ⟨fr, fnm⟩ := hfs l[k] (List.getElem_mem hlt)
    have hbk := blocks_spec k (by omega) l[k] fr fnm
    have hbl := bks_len k l[k]
    have hstep := hA1 k hlt
    have hget : (l.map filC).getD k [] = filC l[k] := by simp [List.getD_eq_getElem?_getD, List.getElem?_eq_getElem hlt]
    generalize hf0 : l[k] = f at *
    obtain ⟨B, hB⟩ : ∃ B, bksE k f = B := ⟨_, rfl⟩
    rw [hB] at hbk hbl hstep
    obtain ⟨rows, e⟩ := B
    simp only at hbk hbl hstep
    unfold filV at hbk
    simp only [filC] at hbk hget
    refine vwp_skip (hNi _ ?_)
    refine vwp_seq_k fun Nj hNj => ?_
    refine vwp_block ?_
    refine vwp_seq_k fun Nk hNk => vreg tt_ok hF rfl ?_; simp only [go_sem, Int.reduceEq, Int.reduceNe, Int.reduceLT, Int.reduceLE, Nat.reduceEqDiff, Nat.reduceAdd, Nat.reduceMul, Nat.reduceLT, Nat.reduceLeDiff, Nat.reduceSub, reduceCtorEq, reduceIte, Int.reduceToNat, beq_self_eq_true, Bool.and_self, List.length_append]
    simp only [hget, List.length_map, go_sem, Int.reduceEq, Int.reduceNe, Int.reduceLT, Int.reduceLE, Nat.reduceEqDiff, Nat.reduceAdd, Nat.reduceMul, Nat.reduceLT, Nat.reduceLeDiff, Nat.reduceSub, reduceCtorEq, reduceIte, Int.reduceToNat, beq_self_eq_true, Bool.and_self, List.length_append]
    refine ⟨⟨by omega, by omega⟩, ?_⟩
    refine hNk _ (VWp.keepR [6,7,8,18,19,20] [8,17] tt_ok hF rfl fun Nl hNl => ?_); simp only [go_sem, Int.reduceEq, Int.reduceNe, Int.reduceLT, Int.reduceLE, Nat.reduceEqDiff, Nat.reduceAdd, Nat.reduceMul, Nat.reduceLT, Nat.reduceLeDiff, Nat.reduceSub, reduceCtorEq, reduceIte, Int.reduceToNat, beq_self_eq_true, Bool.and_self, List.length_append]
    refine .inl ⟨_, hbk, ?_⟩; try simp only [go_sem, Int.reduceEq, Int.reduceNe, Int.reduceLT, Int.reduceLE, Nat.reduceEqDiff, Nat.reduceAdd, Nat.reduceMul, Nat.reduceLT, Nat.reduceLeDiff, Nat.reduceSub, reduceCtorEq, reduceIte, Int.reduceToNat, beq_self_eq_true, Bool.and_self, List.length_append]
    refine hNl _ (VWp.keep [6,9,10,18,19,20] [17] ?_); simp only [go_sem, Int.reduceEq, Int.reduceNe, Int.reduceLT, Int.reduceLE, Nat.reduceEqDiff, Nat.reduceAdd, Nat.reduceMul, Nat.reduceLT, Nat.reduceLeDiff, Nat.reduceSub, reduceCtorEq, reduceIte, Int.reduceToNat, beq_self_eq_true, Bool.and_self, List.length_append]
    refine vwp_seq_k fun Nm hNm => ?_
    refine vwp_seq_k fun Nn hNn => vreg tt_ok hF rfl ?_; simp only [go_sem, Int.reduceEq, Int.reduceNe, Int.reduceLT, Int.reduceLE, Nat.reduceEqDiff, Nat.reduceAdd, Nat.reduceMul, Nat.reduceLT, Nat.reduceLeDiff, Nat.reduceSub, reduceCtorEq, reduceIte, Int.reduceToNat, beq_self_eq_true, Bool.and_self, List.length_append]
    refine hNn _ (VWp.keep [6,9,10,18,19,20,32] [17] ?_); simp only [go_sem, Int.reduceEq, Int.reduceNe, Int.reduceLT, Int.reduceLE, Nat.reduceEqDiff, Nat.reduceAdd, Nat.reduceMul, Nat.reduceLT, Nat.reduceLeDiff, Nat.reduceSub, reduceCtorEq, reduceIte, Int.reduceToNat, beq_self_eq_true, Bool.and_self, List.length_append]
    refine vif rfl ⟨fun ht2 => ?_, fun hf2 => ?_⟩
    · have hne : e ≠ 0 := by simpa using ht2
      have h1 := errB_first l 0 k hlt (fun j h => by have := hall j h (by omega); simpa using this) (by rw [Nat.zero_add, hf0, hB]; exact hne)
      rw [Nat.zero_add, hf0, hB] at h1
      have h2 : errB 0 l = e := h1
      rw [h2, if_neg hne]
      refine vwp_seq_k fun No hNo => vreg tt_ok hF rfl ?_; simp only [go_sem, Int.reduceEq, Int.reduceNe, Int.reduceLT, Int.reduceLE, Nat.reduceEqDiff, Nat.reduceAdd, Nat.reduceMul, Nat.reduceLT, Nat.reduceLeDiff, Nat.reduceSub, reduceCtorEq, reduceIte, Int.reduceToNat, beq_self_eq_true, Bool.and_self, List.length_append]
      refine hNo _ (VWp.keep [4,5] [] ?_); simp only [go_sem, Int.reduceEq, Int.reduceNe, Int.reduceLT, Int.reduceLE, Nat.reduceEqDiff, Nat.reduceAdd, Nat.reduceMul, Nat.reduceLT, Nat.reduceLeDiff, Nat.reduceSub, reduceCtorEq, reduceIte, Int.reduceToNat, beq_self_eq_true, Bool.and_self, List.length_append]
      refine vwp_ret ?_
      simp only [go_sem, Int.reduceEq, Int.reduceNe, Int.reduceLT, Int.reduceLE, Nat.reduceEqDiff, Nat.reduceAdd, Nat.reduceMul, Nat.reduceLT, Nat.reduceLeDiff, Nat.reduceSub, reduceCtorEq, reduceIte, Int.reduceToNat, beq_self_eq_true, Bool.and_self, List.length_append]
      exact LeV.tup ⟨LeV.nil _, LeV.refl _, trivial⟩
    · have he0 : e = 0 := by simpa using hf2
      refine vwp_skip (hNm _ ?_)
      refine vreg tt_ok hF rfl ?_; simp only [go_sem, Int.reduceEq, Int.reduceNe, Int.reduceLT, Int.reduceLE, Nat.reduceEqDiff, Nat.reduceAdd, Nat.reduceMul, Nat.reduceLT, Nat.reduceLeDiff, Nat.reduceSub, reduceCtorEq, reduceIte, Int.reduceToNat, beq_self_eq_true, Bool.and_self, List.length_append]
      refine ⟨by first | omega | (simp; omega), ?_⟩
      rw [← hstep]
      have hsl : (A k).length + rows.length = (A (k + 1)).length := by rw [hstep, List.length_append, List.length_map]
      refine hNj _ (VWp.keep [6,18,19,20] [17] ?_); simp only [go_sem, Int.reduceEq, Int.reduceNe, Int.reduceLT, Int.reduceLE, Nat.reduceEqDiff, Nat.reduceAdd, Nat.reduceMul, Nat.reduceLT, Nat.reduceLeDiff, Nat.reduceSub, reduceCtorEq, reduceIte, Int.reduceToNat, beq_self_eq_true, Bool.and_self, List.length_append]
      rw [hsl]
      refine ⟨Nat.le_refl _, ?_⟩
      refine vreg tt_ok hF rfl ?_; simp only [go_sem, Int.reduceEq, Int.reduceNe, Int.reduceLT, Int.reduceLE, Nat.reduceEqDiff, Nat.reduceAdd, Nat.reduceMul, Nat.reduceLT, Nat.reduceLeDiff, Nat.reduceSub, reduceCtorEq, reduceIte, Int.reduceToNat, beq_self_eq_true, Bool.and_self, List.length_append]
      rw [wrap_i64 (by omega) (by omega)]
      refine ⟨k + 1, ⟨by omega, fun j h h2 => ?_⟩, by omega, by simp⟩
      rcases Nat.lt_or_ge j k with q | q
      · exact hall j q h2
      · have : j = k := by omega
        subst this
        rw [hf0, hB]; exact he0
  · have hkl : k = l.length := by have := of_decide_eq_false hf; omega
    subst hkl
    have hAm : (A l.length).length = (allB 0 l).length := by rw [hAn, List.length_map]
    refine vwp_exit ?_
    simp only [go_sem, Int.reduceEq, Int.reduceNe, Int.reduceLT, Int.reduceLE, Nat.reduceEqDiff, Nat.reduceAdd, Nat.reduceMul, Nat.reduceLT, Nat.reduceLeDiff, Nat.reduceSub, reduceCtorEq, reduceIte, Int.reduceToNat, beq_self_eq_true, Bool.and_self, List.length_append]
    refine hNf _ (VWp.keep [6] [17] ?_); simp only [go_sem, Int.reduceEq, Int.reduceNe, Int.reduceLT, Int.reduceLE, Nat.reduceEqDiff, Nat.reduceAdd, Nat.reduceMul, Nat.reduceLT, Nat.reduceLeDiff, Nat.reduceSub, reduceCtorEq, reduceIte, Int.reduceToNat, beq_self_eq_true, Bool.and_self, List.length_append]
    have he0 : errB 0 l = 0 := errB_none l 0 (fun j h => by have := hall j h h; simpa using this)
    rw [if_pos he0] at hbad ⊢
    have hfull : ¬ 1 + (allB 0 l).length < 4096 := fun q => by rw [if_pos q] at hbad; exact hbad rfl
    rw [if_neg hfull]
    have hfin := finish_full ([V.bool false, .sl 1 VB, .bool false] :: A l.length) (by rw [List.length_cons]; omega)
    refine vwp_seq_k fun Np hNp => vreg tt_ok hF rfl ?_; simp only [go_sem, Int.reduceEq, Int.reduceNe, Int.reduceLT, Int.reduceLE, Nat.reduceEqDiff, Nat.reduceAdd, Nat.reduceMul, Nat.reduceLT, Nat.reduceLeDiff, Nat.reduceSub, reduceCtorEq, reduceIte, Int.reduceToNat, beq_self_eq_true, Bool.and_self, List.length_append]
    refine .inl ⟨_, hfin, ?_⟩; try simp only [go_sem, Int.reduceEq, Int.reduceNe, Int.reduceLT, Int.reduceLE, Nat.reduceEqDiff, Nat.reduceAdd, Nat.reduceMul, Nat.reduceLT, Nat.reduceLeDiff, Nat.reduceSub, reduceCtorEq, reduceIte, Int.reduceToNat, beq_self_eq_true, Bool.and_self, List.length_append]
    refine hNp _ (VWp.keep [4,5] [] ?_); simp only [go_sem, Int.reduceEq, Int.reduceNe, Int.reduceLT, Int.reduceLE, Nat.reduceEqDiff, Nat.reduceAdd, Nat.reduceMul, Nat.reduceLT, Nat.reduceLeDiff, Nat.reduceSub, reduceCtorEq, reduceIte, Int.reduceToNat, beq_self_eq_true, Bool.and_self, List.length_append]
    refine vwp_ret ?_
    simp only [go_sem, Int.reduceEq, Int.reduceNe, Int.reduceLT, Int.reduceLE, Nat.reduceEqDiff, Nat.reduceAdd, Nat.reduceMul, Nat.reduceLT, Nat.reduceLeDiff, Nat.reduceSub, reduceCtorEq, reduceIte, Int.reduceToNat, beq_self_eq_true, Bool.and_self, List.length_append]
    exact LeV.refl _
end Go.Proofs.YtjedikaidbobdaaGreatDoor
