import Derived.Outline
import Derived.Test.YtedbbinlcdgkoaaGreatDoorYL
import Derived.Test.YtedbbinlcdgkoaaGreatDoorZX
import Derived.Test.YtedbbinlcdgkoaaGreatDoorYN
/- Layer 19: ConfigLayout. -/
-- FUSE
-- LESS
namespace Go.Proofs.YtedbbinlcdgkoaaGreatDoor
open Go.RowKit Go.Lib
set_option linter.unusedVariables false
set_option linter.unusedSimpArgs false
theorem strs_flat (L : List Bs) : ∀ v ∈ (L.map strR).flatten, flatV v = true := fun v hv => by
  obtain ⟨r, hr, hv⟩ := List.mem_flatten.1 hv
  obtain ⟨w, _, rfl⟩ := List.mem_map.1 hr
  unfold strR at hv
  rw [List.mem_singleton] at hv; rw [hv]; rfl
theorem strs_rows (L : List Bs) : (∀ r ∈ L.map strR, r.length = 1) ∧ cleanR (L.map strR) := by
  constructor <;>
  · intro r hr
    obtain ⟨w, _, rfl⟩ := List.mem_map.1 hr
    rfl
theorem swapT_len (L : List Bs) (k : Nat) : (swapT L k).length = L.length := by unfold swapT; simp
theorem moveT_pos {L : List Bs} (h : 0 < L.length) (n : Nat) : 0 < (moveT L n).length := by
  unfold moveT
  split
  · split <;> simp [h]
  · split
    · simp only [List.length_append, List.length_cons]; omega
    · split
      · rw [swapT_len]; exact h
      · exact h
theorem layT_pos : ∀ (ch : List UInt8) {L : List Bs}, 0 < L.length → 0 < (layT L ch).length
  | [], _, h => by rw [layT]; exact h
  | b :: ch, L, h => by
    have hm := moveT_pos h b.toNat
    rw [layT]
    split
    · exact hm
    · exact layT_pos ch hm
theorem text_snoc {R : List Bs} {k : Nat} (h : k < R.length) : ((R.take (k + 1)).map (· ++ [10])).flatten = ((R.take k).map (· ++ [10])).flatten ++ R[k] ++ ([10] : Bs) := by
  rw [List.take_succ_eq_append_getElem h, List.map_append, List.flatten_append]; simp
theorem text_len (R : List Bs) (k : Nat) : ((R.take k).map (· ++ [10])).flatten.length ≤ ((R.map (· ++ [10])).flatten).length := by
  conv => rhs; rw [← List.take_append_drop k R, List.map_append, List.flatten_append, List.length_append]
  omega
set_option maxHeartbeats 16000000 in
set_option maxRecDepth 8000 in
theorem ConfigLayout_spec (st : Nat) (hst : st < 256) (ps : List UInt8) (us : List UniT) (ch : List UInt8) : Spec Tryz.prog 6 [.agg (seedC st ps us), .sl 1 (bytesR ch)] (.bool true) := by
  have hmake := Make_spec st hst ps us
  obtain ⟨c, hc⟩ : ∃ c, makeT st ps us = c := ⟨_, rfl⟩
  have hval := make_valid st ps us
  rw [hc] at hmake hval
  obtain ⟨l1, l2⟩ := val_lens hval
  have hpr := Print_spec c
  unfold prtR at hpr
  rw [if_pos hval, hval] at hpr
  have hplen := print_len hval
  have heq := equal_same c l1 l2
  obtain ⟨hL1, hL2, hL3⟩ := lay_start (val_of hval)
  obtain ⟨L0, hL0⟩ : ∃ L, (linesC c).map joinW = L := ⟨_, rfl⟩
  have hln : linesT (printT c) = L0 := by
    unfold linesT printT
    have : (linesC c).map lineW = ((linesC c).map joinW).map (· ++ [10]) := by rw [List.map_map]; rfl
    rw [this, split_lines _ hL1.n, hL0]; simp
  obtain ⟨hpl1, hpl2⟩ := parse_lay hval (ch.take 60)
  rw [hL0] at hL1 hL2 hL3 hpl1 hpl2
  obtain ⟨R, hR⟩ : ∃ R, layT L0 (ch.take 60) = R := ⟨_, rfl⟩
  obtain ⟨IR, hIR, hRl⟩ := lay_all (ch.take 60) hL1 hL2 (by omega)
  rw [hR] at hpl1 hpl2 hIR hRl
  have hRp : 0 < R.length := by rw [← hR]; exact layT_pos _ hL2
  have hlines := lines_B (printT c) (by omega)
  rw [hln] at hlines
  have hpa := Parse_spec ((R.map (· ++ [10])).flatten) (by omega)
  rw [hpl1] at hpa
  unfold resC at hpa
  unfold cfgC at hmake hpr heq hpa
  unfold seedC at hmake ⊢
  refine spec_of tt_ok Tryz.func6 rfl (by decide) Tryz.ntmps6 (congrArg Array.toList Tryz.results6) (by simp) (by decide) rfl rfl (fun F hF => ?_)
  refine vwp_seq_k fun Na hNa => vreg tt_ok hF rfl ?_; simp only [go_sem, Int.reduceEq, Int.reduceLT, Nat.reduceEqDiff, Nat.reduceAdd, Nat.reduceMul, Nat.reduceLT, Nat.reduceLeDiff, Int.reduceToNat]
  refine hNa _ (VWp.keep [1,2] [2] ?_); simp only [go_sem, Int.reduceEq, Int.reduceLT, Nat.reduceEqDiff, Nat.reduceAdd, Nat.reduceMul, Nat.reduceLT, Nat.reduceLeDiff, Int.reduceToNat]
  refine vwp_seq_k fun Nb hNb => ?_
  refine vwp_seq_k fun Nc hNc => vreg tt_ok hF rfl ?_; simp only [go_sem, Int.reduceEq, Int.reduceLT, Nat.reduceEqDiff, Nat.reduceAdd, Nat.reduceMul, Nat.reduceLT, Nat.reduceLeDiff, Int.reduceToNat]
  refine .inl ⟨_, works_spec, ?_⟩; try simp only [go_sem, Int.reduceEq, Int.reduceLT, Nat.reduceEqDiff, Nat.reduceAdd, Nat.reduceMul, Nat.reduceLT, Nat.reduceLeDiff, Int.reduceToNat]
  refine hNc _ (VWp.keep [1,2,17] [2] ?_); simp only [go_sem, Int.reduceEq, Int.reduceLT, Nat.reduceEqDiff, Nat.reduceAdd, Nat.reduceMul, Nat.reduceLT, Nat.reduceLeDiff, Int.reduceToNat]
  refine vif rfl ⟨(fun hf => by first | cases hf | exact absurd hf (by decide)), fun ht => ?_⟩
  refine vwp_skip (hNb _ ?_)
  refine vwp_seq_k fun Ne hNe => vreg tt_ok hF rfl ?_; simp only [go_sem, Int.reduceEq, Int.reduceLT, Nat.reduceEqDiff, Nat.reduceAdd, Nat.reduceMul, Nat.reduceLT, Nat.reduceLeDiff, Int.reduceToNat]
  refine .inl ⟨_, hmake, ?_⟩; try simp only [go_sem, Int.reduceEq, Int.reduceLT, Nat.reduceEqDiff, Nat.reduceAdd, Nat.reduceMul, Nat.reduceLT, Nat.reduceLeDiff, Int.reduceToNat]
  refine hNe _ (VWp.keepR [1,5] [5] tt_ok hF rfl fun Nf hNf => ?_); simp only [go_sem, Int.reduceEq, Int.reduceLT, Nat.reduceEqDiff, Nat.reduceAdd, Nat.reduceMul, Nat.reduceLT, Nat.reduceLeDiff, Int.reduceToNat]
  refine .inl ⟨_, hpr, ?_⟩; try simp only [go_sem, Int.reduceEq, Int.reduceLT, Nat.reduceEqDiff, Nat.reduceAdd, Nat.reduceMul, Nat.reduceLT, Nat.reduceLeDiff, Int.reduceToNat]
  refine hNf _ (VWp.keepR [1,5,6] [5] tt_ok hF rfl fun Ng hNg => ?_); simp only [go_sem, Int.reduceEq, Int.reduceLT, Nat.reduceEqDiff, Nat.reduceAdd, Nat.reduceMul, Nat.reduceLT, Nat.reduceLeDiff, Int.reduceToNat]
  refine .inr (bxo [(500011, 500011)] rfl ?_); simp only [go_sem, Int.reduceEq, Int.reduceLT, Nat.reduceEqDiff, Nat.reduceAdd, Nat.reduceMul, Nat.reduceLT, Nat.reduceLeDiff, Int.reduceToNat]; refine ⟨_, _, hlines, ?_⟩; try simp only [go_sem, Int.reduceEq, Int.reduceLT, Nat.reduceEqDiff, Nat.reduceAdd, Nat.reduceMul, Nat.reduceLT, Nat.reduceLeDiff, Int.reduceToNat]
  refine hNg _ (VWp.keep [1,5,8] [5,500011] ?_); simp only [go_sem, Int.reduceEq, Int.reduceLT, Nat.reduceEqDiff, Nat.reduceAdd, Nat.reduceMul, Nat.reduceLT, Nat.reduceLeDiff, Int.reduceToNat]
  refine vmeet (fun _ : Nat => [(5, .ptr 5 0), (8, .own 500011 R.length)]) (fun _ => [(5, .box 25 [.sl 5 (c.us.map uniC), .int .i64 c.store, .sl 2 (c.ps.map parC)]), (500011, .arr 1 9 (R.map strR))]) (fun z => z = 0) ?_ ?_
  · refine vwp_seq_k fun Ni hNi => vreg tt_ok hF rfl ?_; simp only [go_sem, Int.reduceEq, Int.reduceLT, Nat.reduceEqDiff, Nat.reduceAdd, Nat.reduceMul, Nat.reduceLT, Nat.reduceLeDiff, Int.reduceToNat]
    refine hNi _ (VWp.keep [1,5,8,9] [5,500011] ?_); simp only [go_sem, Int.reduceEq, Int.reduceLT, Nat.reduceEqDiff, Nat.reduceAdd, Nat.reduceMul, Nat.reduceLT, Nat.reduceLeDiff, Int.reduceToNat]
    refine vwp_block ?_
    refine vloop (fun z : Nat × List Bs => [(1, .sl 1 (bytesR ch)), (5, .ptr 5 0), (8, .own 500011 z.2.length), (9, .int .i64 (z.1 : Int))]) (fun z => [(5, .box 25 [.sl 5 (c.us.map uniC), .int .i64 c.store, .sl 2 (c.ps.map parC)]), (500011, .arr 1 9 (z.2.map strR))])
      (fun z => z.1 ≤ ch.length ∧ z.1 ≤ 60 ∧ 0 < z.2.length ∧ z.2.length ≤ 60 ∧ (∃ I, LayI c I z.2) ∧ layT z.2 ((ch.take 60).drop z.1) = R) (fun z => 60 - z.1) (0, L0) ⟨by simp, by simp, hL2, by simp only; omega, ⟨_, hL1⟩, by simpa using hR⟩ (by simp only [go_sem, Int.reduceEq, Int.reduceLT, Nat.reduceEqDiff, Nat.reduceAdd, Nat.reduceMul, Nat.reduceLT, Nat.reduceLeDiff, Int.reduceToNat]; try simp) ?_
    rintro ⟨k, L⟩ ⟨hk, hk60, hl0, hl60, ⟨I, hI⟩, hlay⟩
    simp only at hk hk60 hl0 hl60 hlay hI
    refine vwp_seq_k fun Nj hNj => ?_
    by_cases hgo : k < ch.length ∧ k < 60
    · obtain ⟨hk1, hk2⟩ := hgo
      have f1 : decide ((k : Int) < (ch.length : Int)) = true := decide_eq_true (by omega)
      have f2 : decide ((k : Int) < 60) = true := decide_eq_true (by omega)
      refine vwp_seq_k fun Nk hNk => vreg tt_ok hF rfl ?_; simp only [f1, f2, bytesR_len, go_sem, Int.reduceEq, Int.reduceLT, Nat.reduceEqDiff, Nat.reduceAdd, Nat.reduceMul, Nat.reduceLT, Nat.reduceLeDiff, Int.reduceToNat]
      refine hNk _ (VWp.keep [1,5,8,9,34] [5,500011] ?_); simp only [go_sem, Int.reduceEq, Int.reduceLT, Nat.reduceEqDiff, Nat.reduceAdd, Nat.reduceMul, Nat.reduceLT, Nat.reduceLeDiff, Int.reduceToNat]
      refine vif rfl ⟨fun ht => ?_, (fun hf => by first | cases hf | exact absurd hf (by decide))⟩
      refine vwp_skip (hNj _ ?_)
      obtain ⟨n, hn⟩ : ∃ n, ch[k].toNat = n := ⟨_, rfl⟩
      have hn256 : n < 256 := by rw [← hn]; exact ch[k].toNat_lt
      have hget := bytesR_at hk1
      rw [hn] at hget
      obtain ⟨M, hM⟩ : ∃ M, moveT L n = M := ⟨_, rfl⟩
      obtain ⟨I2, hI2⟩ := lay_move hI hl0 n
      have hM0 := moveT_pos hl0 n
      rw [hM] at hI2 hM0
      have hstep : layT L ((ch.take 60).drop k) = if 60 < M.length then M else layT M ((ch.take 60).drop (k + 1)) := by
        have hlt : k < (ch.take 60).length := by rw [List.length_take]; omega
        rw [List.drop_eq_getElem_cons hlt, layT, List.getElem_take, hn, hM]
      have hm := Nat.mod_lt (n / 4) hl0
      have hm4 := Nat.mod_lt n (show 0 < 4 by decide)
      have e1 : (n : Int).tdiv 4 = ((n / 4 : Nat) : Int) := by rw [tdiv_pos (by omega)]; omega
      have e2 : ((n / 4 : Nat) : Int).tmod (L.length : Int) = ((n / 4 % L.length : Nat) : Int) := by rw [tmod_pos (by omega)]; rfl
      have e5 : (n : Int).tmod 4 = ((n % 4 : Nat) : Int) := by rw [tmod_pos (by omega)]; omega
      have e0 : IntKind.i64.wrap ((n / 4 : Nat) : Int) = ((n / 4 : Nat) : Int) := wrap_i64 (by omega) (by omega)
      have e6 : IntKind.u8.wrap ((n / 4 : Nat) : Int) = ((n / 4 : Nat) : Int) := by rw [wrap_u8]; omega
      have e4 : IntKind.u8.wrap ((n % 4 : Nat) : Int) = ((n % 4 : Nat) : Int) := by rw [wrap_u8]; omega
      have hmv := hM
      unfold moveT at hmv
      obtain ⟨p, hpp⟩ : ∃ p, n / 4 % L.length = p := ⟨_, rfl⟩
      obtain ⟨q, hqq⟩ : ∃ q, n % 4 = q := ⟨_, rfl⟩
      rw [hpp] at e2 hm hmv
      rw [hqq] at e5 hm4 e4 hmv
      refine vmeet (fun _ : Nat => [(1, .sl 1 (bytesR ch)), (5, .ptr 5 0), (8, .own 500011 M.length), (9, .int .i64 (k : Int))]) (fun _ => [(5, .box 25 [.sl 5 (c.us.map uniC), .int .i64 c.store, .sl 2 (c.ps.map parC)]), (500011, .arr 1 9 (M.map strR))]) (fun z => z = 0 ∧ M.length ≤ 60) ?_ ?_
      · refine vwp_block ?_
        refine vwp_seq_k fun Nm hNm => vreg tt_ok hF rfl ?_; simp only [hget, Int.toNat_natCast, e0, e1, e2, e6, bytesR_len, go_sem, Int.reduceEq, Int.reduceLT, Nat.reduceEqDiff, Nat.reduceAdd, Nat.reduceMul, Nat.reduceLT, Nat.reduceLeDiff, Int.reduceToNat]
        refine ⟨⟨by omega, by omega⟩, by omega, ?_⟩
        refine hNm _ (VWp.keep [1,5,8,9,10] [5,500011] ?_); simp only [go_sem, Int.reduceEq, Int.reduceLT, Nat.reduceEqDiff, Nat.reduceAdd, Nat.reduceMul, Nat.reduceLT, Nat.reduceLeDiff, Int.reduceToNat]
        refine vmeet (fun _ : Nat => [(1, .sl 1 (bytesR ch)), (5, .ptr 5 0), (8, .own 500011 M.length), (9, .int .i64 (k : Int))]) (fun _ => [(5, .box 25 [.sl 5 (c.us.map uniC), .int .i64 c.store, .sl 2 (c.ps.map parC)]), (500011, .arr 1 9 (M.map strR))]) (fun z => z = 0) ?_ ?_
        · refine vwp_seq_k fun No hNo => vreg tt_ok hF rfl ?_; simp only [hget, Int.toNat_natCast, e5, e4, bytesR_len, go_sem, Int.reduceEq, Int.reduceLT, Nat.reduceEqDiff, Nat.reduceAdd, Nat.reduceMul, Nat.reduceLT, Nat.reduceLeDiff, Int.reduceToNat]
          refine ⟨⟨by omega, by omega⟩, ?_⟩
          refine hNo _ (VWp.keep [1,5,8,9,10,50] [5,500011] ?_); simp only [go_sem, Int.reduceEq, Int.reduceLT, Nat.reduceEqDiff, Nat.reduceAdd, Nat.reduceMul, Nat.reduceLT, Nat.reduceLeDiff, Int.reduceToNat]
          refine vwp_block ?_
          refine vwp_seq_k fun Np hNp => vreg tt_ok hF rfl ?_; simp only [go_sem, Int.reduceEq, Int.reduceLT, Nat.reduceEqDiff, Nat.reduceAdd, Nat.reduceMul, Nat.reduceLT, Nat.reduceLeDiff, Int.reduceToNat]
          refine hNp _ (VWp.keep [1,5,8,9,10,50,88] [5,500011] ?_); simp only [go_sem, Int.reduceEq, Int.reduceLT, Nat.reduceEqDiff, Nat.reduceAdd, Nat.reduceMul, Nat.reduceLT, Nat.reduceLeDiff, Int.reduceToNat]
          refine vif rfl ⟨fun ht => ?_, fun hf => ?_⟩
          · have h0 : q = 0 := by have := of_decide_eq_true ht; omega
            rw [if_pos h0] at hmv
            have hLp : L.getD p [] = L[p] := by simp [List.getD_eq_getElem?_getD, hm]
            rw [hLp] at hmv
            have hgl := str_row hm
            have hlen := hI.l _ (List.getElem_mem hm)
            refine vwp_seq_k fun Nq hNq => VWp.peek tt_ok hF rfl 500011 8 1 [10] [1,5,8,9,10] [5,500011] [(95, .bool (decide (L[p].length ≤ 100)))] (rows := L.map strR) (by show V.own 500011 L.length = _; rw [List.length_map]) rfl (by intro e; rw [List.map_eq_nil_iff] at e; rw [e] at hl0; exact absurd hl0 (by decide)) (strs_flat L) (by intro x hx; rw [List.mem_singleton] at hx; rw [hx]; rfl) rfl ?_ (by simp only [go_sem, Int.reduceEq, Int.reduceLT, Nat.reduceEqDiff, Nat.reduceAdd, Nat.reduceMul, Nat.reduceLT, Nat.reduceLeDiff, Int.reduceToNat]; try trivial) ?_
            · have g1 : decide ((L[p].length : Int) ≤ 100) = decide (L[p].length ≤ 100) := decide_eq_decide.2 (by omega)
              simp only [hgl, Int.toNat_natCast, List.length_map, go_sem, Int.reduceEq, Int.reduceLT, Nat.reduceEqDiff, Nat.reduceAdd, Nat.reduceMul, Nat.reduceLT, Nat.reduceLeDiff, Int.reduceToNat]
              refine ⟨⟨by omega, by omega⟩, fun x hx => ?_⟩
              rw [List.mem_singleton] at hx; subst hx
              show V.bool _ = V.bool _
              rw [g1]
            · simp only [go_sem, Int.reduceEq, Int.reduceLT, Nat.reduceEqDiff, Nat.reduceAdd, Nat.reduceMul, Nat.reduceLT, Nat.reduceLeDiff, Int.reduceToNat]
              refine hNq _ (VWp.keep [1,5,8,9,10,95] [5,500011] ?_); simp only [go_sem, Int.reduceEq, Int.reduceLT, Nat.reduceEqDiff, Nat.reduceAdd, Nat.reduceMul, Nat.reduceLT, Nat.reduceLeDiff, Int.reduceToNat]
              refine vif rfl ⟨fun ht => ?_, fun hf => ?_⟩
              · have hw100 := of_decide_eq_true ht
                rw [if_pos hw100] at hmv
                refine VWp.poke tt_ok hF 7 rfl 500011 8 [10] [1,5,9] [5] (ki := .i64) (rows := L.map strR) (idx := p) (val := .str (wideT L[p])) rfl rfl rfl rfl rfl rfl rfl rfl rfl rfl (by decide) (by show V.own 500011 L.length = _; rw [List.length_map]) rfl rfl (strs_flat L) rfl (by rw [List.length_map]; exact hm) ?_ ?_ ?_
                · simp only [hgl, Int.toNat_natCast, List.length_map, go_sem, Int.reduceEq, Int.reduceLT, Nat.reduceEqDiff, Nat.reduceAdd, Nat.reduceMul, Nat.reduceLT, Nat.reduceLeDiff, Int.reduceToNat]
                  exact ⟨⟨by omega, by omega⟩, .inl ⟨_, wide_spec _ (by omega), rfl⟩⟩
                · simp only [go_sem, Int.reduceEq, Int.reduceLT, Nat.reduceEqDiff, Nat.reduceAdd, Nat.reduceMul, Nat.reduceLT, Nat.reduceLeDiff, Int.reduceToNat]
                  rw [List.length_set, List.length_map]; exact Nat.le_refl _
                · simp only [go_sem, Int.reduceEq, Int.reduceLT, Nat.reduceEqDiff, Nat.reduceAdd, Nat.reduceMul, Nat.reduceLT, Nat.reduceLeDiff, Int.reduceToNat]
                  exact ⟨0, rfl, by simp [← hmv, strR, List.map_set]⟩
              · have hw100 := of_decide_eq_false hf
                rw [if_neg hw100] at hmv
                refine vwp_skip ?_
                simp only [go_sem, Int.reduceEq, Int.reduceLT, Nat.reduceEqDiff, Nat.reduceAdd, Nat.reduceMul, Nat.reduceLT, Nat.reduceLeDiff, Int.reduceToNat]
                exact ⟨0, rfl, by simp [hmv]⟩
          have h0 : q ≠ 0 := by have := of_decide_eq_false hf; omega
          refine vwp_seq_k fun Nr hNr => vreg tt_ok hF rfl ?_; simp only [go_sem, Int.reduceEq, Int.reduceLT, Nat.reduceEqDiff, Nat.reduceAdd, Nat.reduceMul, Nat.reduceLT, Nat.reduceLeDiff, Int.reduceToNat]
          refine hNr _ (VWp.keep [1,5,8,9,10,50,104] [5,500011] ?_); simp only [go_sem, Int.reduceEq, Int.reduceLT, Nat.reduceEqDiff, Nat.reduceAdd, Nat.reduceMul, Nat.reduceLT, Nat.reduceLeDiff, Int.reduceToNat]
          refine vif rfl ⟨fun ht => ?_, fun hf => ?_⟩
          · have h1 : q = 1 := by have := of_decide_eq_true ht; omega
            rw [if_neg h0, if_pos h1] at hmv
            refine VWp.byW 500011 8 1 [1,5,9] [5] (rows := L.map strR) (M.map strR) (by show V.own 500011 L.length = _; rw [List.length_map]) rfl rfl (by rw [List.length_map, List.length_map, ← hmv]; simp only [List.length_append, List.length_cons, List.length_take, List.length_drop]; omega) (strs_rows _).1 (strs_rows _).2 ?_ (by simp only [List.length_map, go_sem, Int.reduceEq, Int.reduceLT, Nat.reduceEqDiff, Nat.reduceAdd, Nat.reduceMul, Nat.reduceLT, Nat.reduceLeDiff, Int.reduceToNat]; try trivial) ?_
            · intro β a0 W hs xs hown hone hrep
              have hxs := repL_strs hrep
              subst hxs
              rw [List.length_map] at hown
              have hRk := Remark_spec n hn256
              have hgc := hs.objs.base.gcNow.2
              rcases hown.2 with ⟨_, h00⟩ | ⟨g, cap, cur, hsv, _, hg, hnc, hcm, hcs, htake⟩
              · omega
              obtain ⟨ax, capm, hva, hc1, hc2, hnil, _, _, hat⟩ := hs.frame 1
              have hbl : (bytesR ch).length = ch.length := bytesR_len ch
              cases ax with
              | none =>
                have := hnil rfl
                rw [this] at hbl
                have : ch.length = 0 := hbl.symm
                omega
              | some y =>
              obtain ⟨hspot, hat⟩ := hat y rfl
              have hbne : bytesR ch ≠ [] := fun e => by rw [e] at hbl; have : ch.length = 0 := hbl.symm; omega
              obtain ⟨xb, xo, ys⟩ := y
              have hspot : ys = none := hspot hbne
              subst hspot
              have hat := AtR.flat.1 hat
              rw [bytesR_flat] at hat
              obtain ⟨_, cc, hcc, _, hrc⟩ := hat.get k (by rw [List.length_map]; exact hk1)
              rw [List.getElem_map, hn] at hrc
              have hrc : cc = .int .u8 (n : Int) := hrc
              subst hrc
              rw [hbl] at hva
              obtain ⟨m, hmc⟩ : ∃ m, ch.length = m := ⟨_, rfl⟩
              rw [hmc] at hva
              have hkm : k < m := by omega
              obtain ⟨r, hr0⟩ : ∃ r, remarkT n = r := ⟨_, rfl⟩
              have hcall : ∀ w, Chg [] W w → Calls Tryz.prog 23 #[.int .u8 (n : Int)] w fun e w' => e = .returned (sv r) ∧ Chg [] w w' := fun w hC => by
                have hgc2 := gc_keep hgc (fun b p c q hc => hC.cell hc (by simp)) (hC.block _ (gc_lt hgc) (by simp))
                refine (hRk.run (fun _ _ => False) w [.int .u8 (n : Int)] (fun b p q => q.elim) ⟨fun b p _ q => q, hgc2⟩ ⟨_, [], rfl, rfl, rfl⟩).mono ?_
                rintro e w' ⟨v, he, hCw, hv⟩
                have hv : v = sv (remarkT n) := hv
                exact ⟨by rw [he, hv, hr0], hCw⟩
              refine Go.wp_mono (Q := fun e a' W' => e = .normal ∧ a'.tmps.size = a0.tmps.size ∧ a'.defers = a0.defers ∧ (∀ k, k ∉ [106, 107, 108, 109, 110, 111, 112, 113, 114, 115, 116, 117, 118, 119, 8] → a'.tmps.getD k undef = a0.tmps.getD k undef) ∧ InsOk W g L p r (a'.tmps.getD 8 undef) W') ?_ ?_
              · have hsz : a0.tmps.size = 153 := by rw [hs.size, hF]
                have h8 : a0.tmps.getD 8 undef = .slice (some ⟨g, 0, none⟩) L.length cap := hsv
                have h10 : a0.tmps.getD 10 undef = .int .i64 (p : Int) := hs.frame 10
                have h9 : a0.tmps.getD 9 undef = .int .i64 (k : Int) := hs.frame 9
                have h1 : a0.tmps.getD 1 undef = .slice (some ⟨xb, xo, none⟩) m capm := hva
                have hx := hcc
                have hp := hm
                have hl : L.length ≤ 1000 := by omega
                have htk : cur.toList.take L.length = L.map sv := by rw [← Nat.mul_one L.length]; exact htake
                have hcs : cur.size = cap := by rw [hcs, Nat.mul_one]
                clear hs hown hone hrep
                have mixed : Tryz.prog.follows .mixedOrders = true := by kernel_rfl
                have hq0 : (p : Int) < (L.length : Int) := by omega
                have hq1 : (k : Int) < (m : Int) := by omega
                have hq3 : (p : Int) ≤ (cap : Int) := by omega
                have hq4 : (p : Int) ≤ (L.length : Int) := by omega
                have hq5 : ¬ (cap = p) := by omega
                have hq6 : (L.length : Int) ≤ (cap : Int) := by omega
                have hgl := lt_of_block hg
                have hcell : ∀ j u, (L.map sv)[j]? = some u → W.cell? ⟨g, j, none⟩ = some u := fun j u hj => by
                  rw [cell_of_row _ _ _ _ _ _ hg, ← Array.getElem?_toList]
                  have hjl := (List.getElem?_eq_some_iff.1 hj).1
                  rw [List.length_map] at hjl
                  rw [← htk, List.getElem?_take_of_lt hjl] at hj
                  exact hj
                have hT : Tryz.prog.underlying 51 = some (.slice 9) := Tryz.underlying51
                obtain ⟨ti, t1, t2, t3, t4⟩ := info_parts info_str
                obtain ⟨F, E0, E1, E2, E3, E4, E5, E6, E7, E8, E9, E10, E11, E12, E13, E14⟩ : ∃ F : Nat → (Nat → Value) → World → Prop, (∀ f w, F 0 f w ↔ (f 0 = .slice (some ⟨g, 0, none⟩) L.length cap)) ∧ (∀ f w, F 1 f w ↔ (f 1 = .int .i64 (p : Int))) ∧ (∀ f w, F 2 f w ↔ (f 2 = .slice (some ⟨g, 0, none⟩) p cap)) ∧ (∀ f w, F 3 f w ↔ (f 3 = .slice (some ⟨xb, xo, none⟩) m capm)) ∧ (∀ f w, F 4 f w ↔ (f 4 = .int .i64 (k : Int))) ∧ (∀ f w, F 5 f w ↔ (f 5 = .pointer (some ⟨xb, xo + k, none⟩))) ∧ (∀ f w, F 6 f w ↔ (f 6 = .int .u8 (n : Int))) ∧ (∀ f w, F 7 f w ↔ (f 7 = sv r)) ∧ (∀ f w, F 8 f w ↔ (∃ g8, f 8 = .slice (some ⟨g8, 0, none⟩) 1 1 ∧ W.heap.size ≤ g8 ∧ w.heap[g8]? = some (.cells #[sv r] 9 (0, 0)))) ∧ (∀ f w, F 9 f w ↔ (f 9 = .slice (some ⟨g, 0, none⟩) L.length cap)) ∧ (∀ f w, F 10 f w ↔ (f 10 = .int .i64 (p : Int))) ∧ (∀ f w, F 11 f w ↔ (f 11 = .slice (some ⟨g, p, none⟩) (L.length - p) (cap - p))) ∧ (∀ f w, F 12 f w ↔ (w.ownsRow W.heap.size 9 1 (f 12) (1 + (L.length - p)) ([sv r] ++ (L.drop p).map sv))) ∧ (∀ f w, F 13 f w ↔ (InsOk W g L p r (f 13) w)) ∧ (∀ f w, F 14 f w ↔ (InsOk W g L p r (f 14) w)) := ⟨fun i f w => match i with
                  | 0 => f 0 = .slice (some ⟨g, 0, none⟩) L.length cap
                  | 1 => f 1 = .int .i64 (p : Int)
                  | 2 => f 2 = .slice (some ⟨g, 0, none⟩) p cap
                  | 3 => f 3 = .slice (some ⟨xb, xo, none⟩) m capm
                  | 4 => f 4 = .int .i64 (k : Int)
                  | 5 => f 5 = .pointer (some ⟨xb, xo + k, none⟩)
                  | 6 => f 6 = .int .u8 (n : Int)
                  | 7 => f 7 = sv r
                  | 8 => ∃ g8, f 8 = .slice (some ⟨g8, 0, none⟩) 1 1 ∧ W.heap.size ≤ g8 ∧ w.heap[g8]? = some (.cells #[sv r] 9 (0, 0))
                  | 9 => f 9 = .slice (some ⟨g, 0, none⟩) L.length cap
                  | 10 => f 10 = .int .i64 (p : Int)
                  | 11 => f 11 = .slice (some ⟨g, p, none⟩) (L.length - p) (cap - p)
                  | 12 => w.ownsRow W.heap.size 9 1 (f 12) (1 + (L.length - p)) ([sv r] ++ (L.drop p).map sv)
                  | 13 => InsOk W g L p r (f 13) w
                  | 14 => InsOk W g L p r (f 14) w
                  | _ => True, fun _ _ => Iff.rfl, fun _ _ => Iff.rfl, fun _ _ => Iff.rfl, fun _ _ => Iff.rfl, fun _ _ => Iff.rfl, fun _ _ => Iff.rfl, fun _ _ => Iff.rfl, fun _ _ => Iff.rfl, fun _ _ => Iff.rfl, fun _ _ => Iff.rfl, fun _ _ => Iff.rfl, fun _ _ => Iff.rfl, fun _ _ => Iff.rfl, fun _ _ => Iff.rfl, fun _ _ => Iff.rfl⟩
                obtain ⟨R, hR13, hR⟩ : ∃ R : Nat → World → World → Prop, (∀ w w', R 13 w w' ↔ Chg [g] w w') ∧ (∀ i w w', i ≠ 13 → (R i w w' ↔ Chg [] w w')) :=
                  ⟨fun i w w' => if i = 13 then Chg [g] w w' else Chg [] w w', (fun _ _ => by show (if _ then _ else _) ↔ _; rw [if_pos rfl]), (fun i _ _ h => by show (if _ then _ else _) ↔ _; rw [if_neg h])⟩
                refine wp_region_flowG (n := 153) mixed F (fun listed w => listed.getD 13 true = false → Chg [] W w) R hsz (by kernel_rfl) ?hR0 ?hGR ?h0 ?hF ?hstep ?hend
                case hR0 =>
                  intro i o w ho hgd
                  exfalso
                  exact hgd (eq_of_beq ((Array.all_eq_true_iff_forall_mem.1 (by kernel_rfl : Array.all _ (fun o : Oper => o.guard == none) = true)) o (Array.mem_of_getElem? ho)))
                case h0 => exact fun _ => Chg.drew [] W
                case hGR =>
                  intro i o ho listed w w' hls hun hcl hde hG hr h13
                  have hi : i ≠ 13 := fun e => by
                    subst e
                    have : (listed.setIfInBounds 13 true).getD 13 true = true := by
                      simp only [Array.getD_eq_getD_getElem?, Array.getElem?_setIfInBounds]
                      split <;> (try split) <;> simp_all
                    rw [this] at h13; cases h13
                  have hset : (listed.setIfInBounds i true).getD 13 true = listed.getD 13 true := by
                    simp only [Array.getD_eq_getD_getElem?, Array.getElem?_setIfInBounds]
                    rw [if_neg hi]
                  rw [hset] at h13
                  exact (hG h13).trans ((hR _ _ _ hi).1 hr)
                case hF =>
                  change ∀ i, i < 15 → _
                  iterate 15 (refine forall_lt_succ' ?_ ?_)
                  · exact forall_lt_zero'
                  · intro i f x w w' hi hji hfree hf hr
                    replace hf := (E0 _ _).1 hf; refine (E0 _ _).2 ?_
                    exact (upd_other f x hji).trans hf
                  · intro i f x w w' hi hji hfree hf hr
                    replace hf := (E1 _ _).1 hf; refine (E1 _ _).2 ?_
                    exact (upd_other f x hji).trans hf
                  · intro i f x w w' hi hji hfree hf hr
                    replace hf := (E2 _ _).1 hf; refine (E2 _ _).2 ?_
                    exact (upd_other f x hji).trans hf
                  · intro i f x w w' hi hji hfree hf hr
                    replace hf := (E3 _ _).1 hf; refine (E3 _ _).2 ?_
                    exact (upd_other f x hji).trans hf
                  · intro i f x w w' hi hji hfree hf hr
                    replace hf := (E4 _ _).1 hf; refine (E4 _ _).2 ?_
                    exact (upd_other f x hji).trans hf
                  · intro i f x w w' hi hji hfree hf hr
                    replace hf := (E5 _ _).1 hf; refine (E5 _ _).2 ?_
                    exact (upd_other f x hji).trans hf
                  · intro i f x w w' hi hji hfree hf hr
                    replace hf := (E6 _ _).1 hf; refine (E6 _ _).2 ?_
                    exact (upd_other f x hji).trans hf
                  · intro i f x w w' hi hji hfree hf hr
                    replace hf := (E7 _ _).1 hf; refine (E7 _ _).2 ?_
                    exact (upd_other f x hji).trans hf
                  · intro i f x w w' hi hji hfree hf hr
                    replace hf := (E8 _ _).1 hf; refine (E8 _ _).2 ?_
                    obtain ⟨g8, e, hge, hh⟩ := hf
                    refine ⟨g8, (upd_other f x hji).trans e, hge, ?_⟩
                    by_cases h : i = 13
                    · subst h; exact ((hR13 _ _).1 hr).heap hh (by simp; omega)
                    · exact ((hR _ _ _ h).1 hr).heap hh (by simp)
                  · intro i f x w w' hi hji hfree hf hr
                    replace hf := (E9 _ _).1 hf; refine (E9 _ _).2 ?_
                    exact (upd_other f x hji).trans hf
                  · intro i f x w w' hi hji hfree hf hr
                    replace hf := (E10 _ _).1 hf; refine (E10 _ _).2 ?_
                    exact (upd_other f x hji).trans hf
                  · intro i f x w w' hi hji hfree hf hr
                    replace hf := (E11 _ _).1 hf; refine (E11 _ _).2 ?_
                    exact (upd_other f x hji).trans hf
                  · intro i f x w w' hi hji hfree hf hr
                    replace hf := (E12 _ _).1 hf; refine (E12 _ _).2 ?_
                    rw [upd_other f x hji]
                    by_cases h : i = 13
                    · subst h; exact ownK_keep hf ((hR13 _ _).1 hr) (fun q hq => by have := ownK_ge hf q hq; simp; omega)
                    · exact ownK_keep1 hf ((hR _ _ _ h).1 hr)
                  · intro i f x w w' hi hji hfree hf hr
                    replace hf := (E13 _ _).1 hf; refine (E13 _ _).2 ?_
                    rw [upd_other f x hji]
                    have h : i ≠ 13 := fun e => hji e.symm
                    exact hf.keep ((hR _ _ _ h).1 hr)
                  · intro i f x w w' hi hji hfree hf hr
                    replace hf := (E14 _ _).1 hf; refine (E14 _ _).2 ?_
                    rw [upd_other f x hji]
                    have h : i ≠ 13 := fun e => by subst e; exact absurd hfree (by decide +kernel)
                    exact hf.keep ((hR _ _ _ h).1 hr)
                case hstep =>
                  change ∀ i, i < 15 → _
                  iterate 15 (refine forall_lt_succ' ?_ ?_)
                  · exact forall_lt_zero'
                  · intro o ho listed a w hls hun hcl hde hG hk hd; injection (show some _ = some o from ho) with ho; subst ho
                    have l14 : listed.getD 14 true = false := unl_of (md := .any) hls hun hcl (j := 14) (e := ⟨0, .phase⟩) rfl (Array.mem_of_getElem? (i := 2) rfl) rfl rfl (by decide)
                    have s8 : a.tmps[8]?.getD (Value.tuple #[]) = .slice (some ⟨g, 0, none⟩) L.length cap := by show a.tmps[8]?.getD undef = _; rw [← Array.getD_eq_getD_getElem?]; exact (hk.yet 8 14 l14 (by kernel_rfl)).trans h8
                    simp [Region.wanted, Oper.wp, execOp, go_sem, s8]
                    exact ⟨_, rfl, (E0 _ _).2 ((upd_same _ _ _).trans rfl), (hR _ _ _ (by decide)).2 (Chg.refl _ _)⟩
                  · intro o ho listed a w hls hun hcl hde hG hk hd; injection (show some _ = some o from ho) with ho; subst ho
                    have s10 : a.tmps[10]?.getD (Value.tuple #[]) = .int .i64 (p : Int) := by show a.tmps[10]?.getD undef = _; rw [← Array.getD_eq_getD_getElem?]; exact (hk.get (ds := [106, 107, 108, 109, 110, 111, 112, 113, 114, 115, 116, 117, 118, 119, 8]) (by kernel_rfl) 10 (by decide)).trans h10
                    simp [Region.wanted, Oper.wp, execOp, go_sem, s10]
                    exact ⟨_, rfl, (E1 _ _).2 ((upd_same _ _ _).trans rfl), (hR _ _ _ (by decide)).2 (Chg.refl _ _)⟩
                  · intro o ho listed a w hls hun hcl hde hG hk hd; injection (show some _ = some o from ho) with ho; subst ho
                    have d0 := (E0 _ _).1 (hd ⟨0, .data⟩ (by simp) rfl)
                    have f0 : a.tmps[106]?.getD (Value.tuple #[]) = .slice (some ⟨g, 0, none⟩) L.length cap := by show a.tmps[106]?.getD undef = _; rw [← Array.getD_eq_getD_getElem?]; exact d0
                    have d1 := (E1 _ _).1 (hd ⟨1, .data⟩ (by simp) rfl)
                    have f1 : a.tmps[107]?.getD (Value.tuple #[]) = .int .i64 (p : Int) := by show a.tmps[107]?.getD undef = _; rw [← Array.getD_eq_getD_getElem?]; exact d1
                    simp [Region.wanted, Oper.wp, execOp, go_sem, f0, f1, hq3, hq4]
                    exact ⟨_, rfl, (E2 _ _).2 ((upd_same _ _ _).trans rfl), (hR _ _ _ (by decide)).2 (Chg.refl _ _)⟩
                  · intro o ho listed a w hls hun hcl hde hG hk hd; injection (show some _ = some o from ho) with ho; subst ho
                    have s1 : a.tmps[1]?.getD (Value.tuple #[]) = .slice (some ⟨xb, xo, none⟩) m capm := by show a.tmps[1]?.getD undef = _; rw [← Array.getD_eq_getD_getElem?]; exact (hk.get (ds := [106, 107, 108, 109, 110, 111, 112, 113, 114, 115, 116, 117, 118, 119, 8]) (by kernel_rfl) 1 (by decide)).trans h1
                    simp [Region.wanted, Oper.wp, execOp, go_sem, s1]
                    exact ⟨_, rfl, (E3 _ _).2 ((upd_same _ _ _).trans rfl), (hR _ _ _ (by decide)).2 (Chg.refl _ _)⟩
                  · intro o ho listed a w hls hun hcl hde hG hk hd; injection (show some _ = some o from ho) with ho; subst ho
                    have s9 : a.tmps[9]?.getD (Value.tuple #[]) = .int .i64 (k : Int) := by show a.tmps[9]?.getD undef = _; rw [← Array.getD_eq_getD_getElem?]; exact (hk.get (ds := [106, 107, 108, 109, 110, 111, 112, 113, 114, 115, 116, 117, 118, 119, 8]) (by kernel_rfl) 9 (by decide)).trans h9
                    simp [Region.wanted, Oper.wp, execOp, go_sem, s9]
                    exact ⟨_, rfl, (E4 _ _).2 ((upd_same _ _ _).trans rfl), (hR _ _ _ (by decide)).2 (Chg.refl _ _)⟩
                  · intro o ho listed a w hls hun hcl hde hG hk hd; injection (show some _ = some o from ho) with ho; subst ho
                    have d3 := (E3 _ _).1 (hd ⟨3, .data⟩ (by simp) rfl)
                    have f3 : a.tmps[109]?.getD (Value.tuple #[]) = .slice (some ⟨xb, xo, none⟩) m capm := by show a.tmps[109]?.getD undef = _; rw [← Array.getD_eq_getD_getElem?]; exact d3
                    have d4 := (E4 _ _).1 (hd ⟨4, .data⟩ (by simp) rfl)
                    have f4 : a.tmps[110]?.getD (Value.tuple #[]) = .int .i64 (k : Int) := by show a.tmps[110]?.getD undef = _; rw [← Array.getD_eq_getD_getElem?]; exact d4
                    simp [Region.wanted, Oper.wp, execOp, go_sem, f3, f4, hq1]
                    exact ⟨_, rfl, (E5 _ _).2 ((upd_same _ _ _).trans rfl), (hR _ _ _ (by decide)).2 (Chg.refl _ _)⟩
                  · intro o ho listed a w hls hun hcl hde hG hk hd; injection (show some _ = some o from ho) with ho; subst ho
                    have d5 := (E5 _ _).1 (hd ⟨5, .data⟩ (by simp) rfl)
                    have f5 : a.tmps[111]?.getD (Value.tuple #[]) = .pointer (some ⟨xb, xo + k, none⟩) := by show a.tmps[111]?.getD undef = _; rw [← Array.getD_eq_getD_getElem?]; exact d5
                    have l7 : listed.getD 7 true = false := unl_of (md := .any) hls hun hcl (j := 7) (e := ⟨6, .data⟩) rfl (Array.mem_of_getElem? (i := 0) rfl) rfl rfl (by decide)
                    have l8 : listed.getD 8 true = false := unl_of (md := .any) hls l7 hcl (j := 8) (e := ⟨7, .data⟩) rfl (Array.mem_of_getElem? (i := 0) rfl) rfl rfl (by decide)
                    have l12 : listed.getD 12 true = false := unl_of (md := .any) hls l8 hcl (j := 12) (e := ⟨8, .data⟩) rfl (Array.mem_of_getElem? (i := 0) rfl) rfl rfl (by decide)
                    have l13 : listed.getD 13 true = false := unl_of (md := .any) hls l12 hcl (j := 13) (e := ⟨12, .data⟩) rfl (Array.mem_of_getElem? (i := 1) rfl) rfl rfl (by decide)
                    have hC : Chg [] W w := hG l13
                    have hx6 := hC.cell hx (by simp)
                    simp [Region.wanted, Oper.wp, execOp, go_sem, f5, hx6]
                    exact ⟨_, rfl, (E6 _ _).2 ((upd_same _ _ _).trans rfl), (hR _ _ _ (by decide)).2 (Chg.refl _ _)⟩
                  · intro o ho listed a w hls hun hcl hde hG hk hd; injection (show some _ = some o from ho) with ho; subst ho
                    have d6 := (E6 _ _).1 (hd ⟨6, .data⟩ (by simp) rfl)
                    have f6 : a.tmps[112]?.getD (Value.tuple #[]) = .int .u8 (n : Int) := by show a.tmps[112]?.getD undef = _; rw [← Array.getD_eq_getD_getElem?]; exact d6
                    have l8 : listed.getD 8 true = false := unl_of (md := .any) hls hun hcl (j := 8) (e := ⟨7, .data⟩) rfl (Array.mem_of_getElem? (i := 0) rfl) rfl rfl (by decide)
                    have l12 : listed.getD 12 true = false := unl_of (md := .any) hls l8 hcl (j := 12) (e := ⟨8, .data⟩) rfl (Array.mem_of_getElem? (i := 0) rfl) rfl rfl (by decide)
                    have l13 : listed.getD 13 true = false := unl_of (md := .any) hls l12 hcl (j := 13) (e := ⟨12, .data⟩) rfl (Array.mem_of_getElem? (i := 1) rfl) rfl rfl (by decide)
                    have hC : Chg [] W w := hG l13
                    simp [Region.wanted, Oper.wp, execOp, go_sem, f6]
                    refine (hcall w hC).mono ?_
                    rintro e w' ⟨rfl, hA⟩
                    exact ⟨_, rfl, (E7 _ _).2 ((upd_same _ _ _).trans rfl), (hR _ _ _ (by decide)).2 hA⟩
                  · intro o ho listed a w hls hun hcl hde hG hk hd; injection (show some _ = some o from ho) with ho; subst ho
                    have d7 := (E7 _ _).1 (hd ⟨7, .data⟩ (by simp) rfl)
                    have f7 : a.tmps[113]?.getD (Value.tuple #[]) = sv r := by show a.tmps[113]?.getD undef = _; rw [← Array.getD_eq_getD_getElem?]; exact d7
                    have l12 : listed.getD 12 true = false := unl_of (md := .any) hls hun hcl (j := 12) (e := ⟨8, .data⟩) rfl (Array.mem_of_getElem? (i := 0) rfl) rfl rfl (by decide)
                    have l13 : listed.getD 13 true = false := unl_of (md := .any) hls l12 hcl (j := 13) (e := ⟨12, .data⟩) rfl (Array.mem_of_getElem? (i := 1) rfl) rfl rfl (by decide)
                    have hC : Chg [] W w := hG l13
                    simp [Region.wanted, Oper.wp, execOp, go_sem, f7]
                    exact ⟨_, rfl, (E8 _ _).2 ⟨w.heap.size, (upd_same _ _ _).trans rfl, hC.size, al_new rfl⟩, (hR _ _ _ (by decide)).2 (Chg.alloc _ _ _)⟩
                  · intro o ho listed a w hls hun hcl hde hG hk hd; injection (show some _ = some o from ho) with ho; subst ho
                    have l14 : listed.getD 14 true = false := unl_of (md := .any) hls hun hcl (j := 14) (e := ⟨9, .phase⟩) rfl (Array.mem_of_getElem? (i := 11) rfl) rfl rfl (by decide)
                    have s8 : a.tmps[8]?.getD (Value.tuple #[]) = .slice (some ⟨g, 0, none⟩) L.length cap := by show a.tmps[8]?.getD undef = _; rw [← Array.getD_eq_getD_getElem?]; exact (hk.yet 8 14 l14 (by kernel_rfl)).trans h8
                    simp [Region.wanted, Oper.wp, execOp, go_sem, s8]
                    exact ⟨_, rfl, (E9 _ _).2 ((upd_same _ _ _).trans rfl), (hR _ _ _ (by decide)).2 (Chg.refl _ _)⟩
                  · intro o ho listed a w hls hun hcl hde hG hk hd; injection (show some _ = some o from ho) with ho; subst ho
                    have s10 : a.tmps[10]?.getD (Value.tuple #[]) = .int .i64 (p : Int) := by show a.tmps[10]?.getD undef = _; rw [← Array.getD_eq_getD_getElem?]; exact (hk.get (ds := [106, 107, 108, 109, 110, 111, 112, 113, 114, 115, 116, 117, 118, 119, 8]) (by kernel_rfl) 10 (by decide)).trans h10
                    simp [Region.wanted, Oper.wp, execOp, go_sem, s10]
                    exact ⟨_, rfl, (E10 _ _).2 ((upd_same _ _ _).trans rfl), (hR _ _ _ (by decide)).2 (Chg.refl _ _)⟩
                  · intro o ho listed a w hls hun hcl hde hG hk hd; injection (show some _ = some o from ho) with ho; subst ho
                    have d9 := (E9 _ _).1 (hd ⟨9, .data⟩ (by simp) rfl)
                    have f9 : a.tmps[115]?.getD (Value.tuple #[]) = .slice (some ⟨g, 0, none⟩) L.length cap := by show a.tmps[115]?.getD undef = _; rw [← Array.getD_eq_getD_getElem?]; exact d9
                    have d10 := (E10 _ _).1 (hd ⟨10, .data⟩ (by simp) rfl)
                    have f10 : a.tmps[116]?.getD (Value.tuple #[]) = .int .i64 (p : Int) := by show a.tmps[116]?.getD undef = _; rw [← Array.getD_eq_getD_getElem?]; exact d10
                    simp [Region.wanted, Oper.wp, execOp, go_sem, f9, f10, hq0, hq3, hq4, hq5, hq6]
                    exact ⟨_, rfl, (E11 _ _).2 ((upd_same _ _ _).trans rfl), (hR _ _ _ (by decide)).2 (Chg.refl _ _)⟩
                  · intro o ho listed a w hls hun hcl hde hG hk hd; injection (show some _ = some o from ho) with ho; subst ho
                    have d8 := (E8 _ _).1 (hd ⟨8, .data⟩ (by simp) rfl)
                    have d11 := (E11 _ _).1 (hd ⟨11, .data⟩ (by simp) rfl)
                    have f11 : a.tmps[117]?.getD (Value.tuple #[]) = .slice (some ⟨g, p, none⟩) (L.length - p) (cap - p) := by show a.tmps[117]?.getD undef = _; rw [← Array.getD_eq_getD_getElem?]; exact d11
                    have l13 : listed.getD 13 true = false := unl_of (md := .any) hls hun hcl (j := 13) (e := ⟨12, .data⟩) rfl (Array.mem_of_getElem? (i := 1) rfl) rfl rfl (by decide)
                    have hC : Chg [] W w := hG l13
                    obtain ⟨g8, e8, hge, hh8⟩ := d8
                    have e1 : a.eval (.tmp 114) = .slice (some ⟨g8, 0, none⟩) 1 1 := e8
                    have e2 : a.eval (.tmp 117) = .slice (some ⟨g, p, none⟩) (L.length - p) (cap - p) := d11
                    obtain ⟨v', w', hr, hown, hgr⟩ := run_append_arg_grows (P := Tryz.prog) w 51 51 9 ti _ 1 16 hT t1 t2 t3 t4 rfl (by decide) ⟨g8, 0, none⟩ 1 1 [sv r] rfl
                      (fun j u hj => by rw [add_at, Nat.zero_add, cell_of_row _ _ _ _ _ _ hh8, ← Array.getElem?_toList]; exact hj) ⟨g, p, none⟩ (L.length - p) (cap - p) ((L.drop p).map sv) (by rw [List.length_map, List.length_drop]; omega)
                      (fun j u hj => by
                        rw [add_at]
                        refine hC.cell (hcell (p + j) u ?_) (by simp)
                        rw [List.getElem?_map] at hj ⊢
                        rw [List.getElem?_drop] at hj; exact hj) (by omega) (by unfold maxLen; omega) (by omega)
                    refine step_append_run rfl (.tmp 114) (.tmp 117) 51 51 rfl _ _ e1 e2 hr ?_
                    exact ⟨v', rfl, (E12 _ _).2 (by rw [upd_same]; exact ownK_base hown hC.size), (hR _ _ _ (by decide)).2 (Chg.of_grownBy hgr (by simp))⟩
                  · intro o ho listed a w hls hun hcl hde hG hk hd; injection (show some _ = some o from ho) with ho; subst ho
                    have d2 := (E2 _ _).1 (hd ⟨2, .data⟩ (by simp) rfl)
                    have f2 : a.tmps[108]?.getD (Value.tuple #[]) = .slice (some ⟨g, 0, none⟩) p cap := by show a.tmps[108]?.getD undef = _; rw [← Array.getD_eq_getD_getElem?]; exact d2
                    have d12 := (E12 _ _).1 (hd ⟨12, .data⟩ (by simp) rfl)
                    have hC : Chg [] W w := hG hun
                    have hgw := hC.heap hg (by simp)
                    have hpre : w.ownsRow 0 9 1 (.slice (some ⟨g, 0, none⟩) p cap) p ((L.take p).map sv) := by
                      refine ⟨by rw [List.length_map, List.length_take]; omega, .inr ⟨g, cap, cur, rfl, Nat.zero_le _, hgw, by omega, hcm, by rw [hcs]; omega, ?_⟩⟩
                      rw [Nat.mul_one, List.map_take, ← htk, List.take_take, Nat.min_eq_left (by omega)]
                    obtain ⟨g12, cap12, rest12, e12, hn12, hm12, _, hh12, hl12⟩ := own_hs d12 (by omega)
                    have e1 : a.eval (.tmp 108) = .slice (some ⟨g, 0, none⟩) p cap := d2
                    have e2 : a.eval (.tmp 118) = .slice (some ⟨g12, 0, none⟩) (1 + (L.length - p)) cap12 := e12
                    have hsrc : Src Tryz.prog 1 51 (.slice (some ⟨g12, 0, none⟩) (1 + (L.length - p)) cap12) (1 + (L.length - p)) ([sv r] ++ (L.drop p).map sv) w := Src.ofSlice w hT ⟨g12, 0, none⟩ _ cap12 _ hl12
                      (fun j u hj => by rw [add_at, Nat.zero_add, cell_of_row _ _ _ _ _ _ hh12, List.getElem?_toArray, List.getElem?_append_left (List.getElem?_eq_some_iff.1 hj).1]; exact hj)
                      (fun u hu => by
                        rcases List.mem_append.1 hu with q | q
                        · rw [List.mem_singleton] at q; rw [q]; rfl
                        · exact strs_one _ u q)
                    obtain ⟨v', w', r1, r2, r3, _⟩ := append_own2 (P := Tryz.prog) w 0 51 51 51 9 ti _ hT t1 t2 (by rw [t3]; rfl) _ p _ (by rw [t3]; exact hpre) _ _ _ (by rw [t3]; exact hsrc) (by unfold maxLen; omega) (by rw [t4]; omega) (Nat.zero_le _)
                    rw [t3] at r2
                    refine step_append_run rfl (.tmp 108) (.tmp 118) 51 51 rfl _ _ e1 e2 r1 ?_
                    have hcg : Chg [g] w w' := r3.chg
                    refine ⟨v', rfl, (E13 _ _).2 (by
                      rw [upd_same]
                      refine ⟨r2, fun b hb => ?_, (hC.weaken (by simp)).trans hcg⟩
                      rcases r3.where' with q | q
                      · left; have hb : v'.ownBlock = some b := hb
                        rw [show v'.ownBlock = some g from q] at hb; injection hb with hb; exact hb.symm
                      · right; have hb : v'.ownBlock = some b := hb
                        rw [q] at hb; injection hb with hb; have := hC.size; omega), (hR13 _ _).2 hcg⟩
                  · intro o ho listed a w hls hun hcl hde hG hk hd; injection (show some _ = some o from ho) with ho; subst ho
                    have d13 := (E13 _ _).1 (hd ⟨13, .data⟩ (by simp) rfl)
                    have d13 : InsOk W g L p r (a.eval (.tmp 119)) w := d13
                    rw [if_pos (show Region.wanted _ _ = true from rfl)]
                    unfold Oper.wp execOp
                    simp only [Sem.run_bind, Sem.run_pure, Result.andThen_ok, Oper.upon]
                    exact ⟨_, rfl, (E14 _ _).2 (by rw [upd_same]; exact d13), (hR _ _ _ (by decide)).2 (Chg.refl _ _)⟩
                case hend =>
                  intro listed a w hall hG hk hf
                  have hI := (E14 _ _).1 (hf 14 (by decide))
                  exact ⟨rfl, hk.size, hk.defers, (fun k hk2 => hk.get (ds := [106, 107, 108, 109, 110, 111, 112, 113, 114, 115, 116, 117, 118, 119, 8]) (by kernel_rfl) k hk2), hI⟩
              · rintro e a' W' ⟨rfl, q1, q2, q3, q4, q5, q6⟩
                rw [← hr0] at q4
                have hob : own (a0.tmps.getD 8 undef) = [g] := by rw [hsv]; rfl
                have hML : M.map sv = (L.take p).map sv ++ ([sv (remarkT n)] ++ (L.drop p).map sv) := by rw [← hmv, List.map_append, List.map_cons]; rfl
                have hMl : (M.map strR).length = p + (1 + (L.length - p)) := by rw [List.length_map, ← hmv]; simp only [List.length_append, List.length_cons, List.length_take, List.length_drop]; omega
                refine ⟨rfl, q1, q2, fun i hi => q3 i (by
                  simp only [List.mem_cons, List.not_mem_nil, or_false] at hi
                  rcases hi with rfl | rfl | rfl <;> decide), M.map sv, ?_, strs_one _, fun S => strs_repL S _, ?_, ?_, ?_⟩
                · rw [hMl, hML]; exact q4
                · rw [hob]; exact q6
                · intro b hb
                  rcases q5 b hb with q | q
                  · left; rw [hsv, q]; rfl
                  · exact .inr q
                · intro hle
                  rw [hMl, List.length_map] at hle; omega
            · simp only [List.length_map, go_sem, Int.reduceEq, Int.reduceLT, Nat.reduceEqDiff, Nat.reduceAdd, Nat.reduceMul, Nat.reduceLT, Nat.reduceLeDiff, Int.reduceToNat]
              first | exact ⟨0, rfl⟩ | exact ⟨0, rfl, by simp⟩
          have h1 : q ≠ 1 := by have := of_decide_eq_false hf; omega
          rw [if_neg h0, if_neg h1] at hmv
          have hLp : L.getD p [] = L[p] := by simp [List.getD_eq_getElem?_getD, hm]
          have hgl := str_row hm
          have hlen := hI.l _ (List.getElem_mem hm)
          have hps := part_spec L[p] (by omega)
          have hpw : IntKind.i64.wrap ((p : Int) + 1) = ((p + 1 : Nat) : Int) := by rw [wrap_i64 (by omega) (by omega)]; omega
          rw [hLp] at hmv
          obtain ⟨B, hB⟩ : ∃ B : Bool, B = (decide (p + 1 < L.length) && !(headT L[p] && headT (L.getD (p + 1) []))) := ⟨_, rfl⟩
          refine vwp_seq_k fun Nq hNq => VWp.peek tt_ok hF rfl 500011 8 1 [10] [1,5,8,9,10] [5,500011] [(71, .bool B)] (rows := L.map strR) (by show V.own 500011 L.length = _; rw [List.length_map]) rfl (by intro e; rw [List.map_eq_nil_iff] at e; rw [e] at hl0; exact absurd hl0 (by decide)) (strs_flat L) (by intro x hx; rw [List.mem_singleton] at hx; rw [hx]; rfl) rfl ?_ (by simp only [go_sem, Int.reduceEq, Int.reduceLT, Nat.reduceEqDiff, Nat.reduceAdd, Nat.reduceMul, Nat.reduceLT, Nat.reduceLeDiff, Int.reduceToNat]; try trivial) ?_
          · by_cases hp1 : p + 1 < L.length
            · have g1 : decide (((p + 1 : Nat) : Int) < (L.length : Int)) = true := decide_eq_true (by omega)
              have hg2 := str_row hp1
              have hLq : L.getD (p + 1) [] = L[p + 1] := by simp [List.getD_eq_getElem?_getD, hp1]
              have hlen2 := hI.l _ (List.getElem_mem hp1)
              have hps2 := part_spec L[p + 1] (by omega)
              rw [hLq, decide_eq_true hp1, Bool.true_and] at hB
              cases hh : headT L[p] with
              | true =>
                rw [hh] at hps hB
                simp only [hgl, hg2, hpw, g1, Int.toNat_natCast, List.length_map, go_sem, Int.reduceEq, Int.reduceLT, Nat.reduceEqDiff, Nat.reduceAdd, Nat.reduceMul, Nat.reduceLT, Nat.reduceLeDiff, Int.reduceToNat]
                refine ⟨⟨by omega, by omega⟩, ?_⟩
                refine .inl ⟨_, hps, ?_⟩; try simp only [go_sem, Int.reduceEq, Int.reduceLT, Nat.reduceEqDiff, Nat.reduceAdd, Nat.reduceMul, Nat.reduceLT, Nat.reduceLeDiff, Int.reduceToNat]
                simp only [hgl, hg2, hpw, g1, Int.toNat_natCast, List.length_map, go_sem, Int.reduceEq, Int.reduceLT, Nat.reduceEqDiff, Nat.reduceAdd, Nat.reduceMul, Nat.reduceLT, Nat.reduceLeDiff, Int.reduceToNat]
                refine ⟨⟨by omega, by omega⟩, ?_⟩
                refine .inl ⟨_, hps2, ?_⟩; try simp only [go_sem, Int.reduceEq, Int.reduceLT, Nat.reduceEqDiff, Nat.reduceAdd, Nat.reduceMul, Nat.reduceLT, Nat.reduceLeDiff, Int.reduceToNat]
                intro x hx
                rw [List.mem_singleton] at hx; subst hx
                show V.bool _ = V.bool _
                rw [hB]
                try simp
              | false =>
                rw [hh] at hps hB
                simp only [hgl, hg2, hpw, g1, Int.toNat_natCast, List.length_map, go_sem, Int.reduceEq, Int.reduceLT, Nat.reduceEqDiff, Nat.reduceAdd, Nat.reduceMul, Nat.reduceLT, Nat.reduceLeDiff, Int.reduceToNat]
                refine ⟨⟨by omega, by omega⟩, ?_⟩
                refine .inl ⟨_, hps, ?_⟩; try simp only [go_sem, Int.reduceEq, Int.reduceLT, Nat.reduceEqDiff, Nat.reduceAdd, Nat.reduceMul, Nat.reduceLT, Nat.reduceLeDiff, Int.reduceToNat]
                intro x hx
                rw [List.mem_singleton] at hx; subst hx
                show V.bool _ = V.bool _
                rw [hB]
                try simp
            · have g1 : decide (((p + 1 : Nat) : Int) < (L.length : Int)) = false := decide_eq_false (by omega)
              rw [decide_eq_false hp1, Bool.false_and] at hB
              simp only [hgl, hpw, g1, Int.toNat_natCast, List.length_map, go_sem, Int.reduceEq, Int.reduceLT, Nat.reduceEqDiff, Nat.reduceAdd, Nat.reduceMul, Nat.reduceLT, Nat.reduceLeDiff, Int.reduceToNat]
              intro x hx
              rw [List.mem_singleton] at hx; subst hx
              show V.bool _ = V.bool _
              rw [hB]
              try simp
          · simp only [go_sem, Int.reduceEq, Int.reduceLT, Nat.reduceEqDiff, Nat.reduceAdd, Nat.reduceMul, Nat.reduceLT, Nat.reduceLeDiff, Int.reduceToNat]
            refine hNq _ (VWp.keep [1,5,8,9,10,71] [5,500011] ?_); simp only [go_sem, Int.reduceEq, Int.reduceLT, Nat.reduceEqDiff, Nat.reduceAdd, Nat.reduceMul, Nat.reduceLT, Nat.reduceLeDiff, Int.reduceToNat]
            refine vif rfl ⟨fun ht => ?_, fun hf => ?_⟩
            · rw [ht] at hB
              have hp1 : p + 1 < L.length := by
                cases hd : decide (p + 1 < L.length) with
                | true => exact of_decide_eq_true hd
                | false => rw [hd, Bool.false_and] at hB; cases hB
              rw [decide_eq_true hp1, Bool.true_and] at hB
              have hLq : L.getD (p + 1) [] = L[p + 1] := by simp [List.getD_eq_getElem?_getD, hp1]
              rw [if_pos ⟨hp1, by
                rintro ⟨k1, k2⟩
                rw [k1, k2] at hB; cases hB⟩] at hmv
              have hsw : M = (L.set p L[p + 1]).set (p + 1) L[p] := by rw [← hmv]; unfold swapT; rw [hLp, hLq]
              have hMl : M.length = L.length := by rw [hsw, List.length_set, List.length_set]
              refine VWp.byW 500011 8 1 [1,5,9] [5] (rows := L.map strR) (M.map strR) (by show V.own 500011 L.length = _; rw [List.length_map]) rfl rfl (by rw [List.length_map, List.length_map, hMl]; exact Nat.le_refl _) (strs_rows _).1 (strs_rows _).2 ?_ (by simp only [List.length_map, go_sem, Int.reduceEq, Int.reduceLT, Nat.reduceEqDiff, Nat.reduceAdd, Nat.reduceMul, Nat.reduceLT, Nat.reduceLeDiff, Int.reduceToNat]; try trivial) ?_
              · intro β a0 W hs xs hown hone hrep
                have hxs := repL_strs hrep
                subst hxs
                rw [List.length_map] at hown
                rcases hown.2 with ⟨_, h00⟩ | ⟨g, cap, cur, hsv, _, hg, hnc, hcm, hcs, htake⟩
                · omega
                rw [Nat.mul_one] at htake
                obtain ⟨rest, hrest⟩ : ∃ rest, cur.toList.drop L.length = rest := ⟨_, rfl⟩
                have hcur : cur = rowA L rest := by
                  unfold rowA
                  rw [← hrest, ← htake, List.take_append_drop, Array.toArray_toList]
                rw [hcur] at hg hcs
                rw [rowA_size] at hcs
                refine Go.wp_mono (Q := fun e a' W' => e = .normal ∧ a'.tmps.size = a0.tmps.size ∧ a'.defers = a0.defers ∧ (∀ k, k ∉ [72, 73, 74, 75, 76, 77, 78, 79, 80, 81, 82, 83, 84, 85, 86, 1000015, 87, 1000017] → a'.tmps.getD k undef = a0.tmps.getD k undef) ∧ Chg [g] W W' ∧ W'.heap[g]? = some (.cells (rowA ((L.set p L[p + 1]).set (p + 1) L[p]) rest) 9 (0, 0))) ?_ ?_
                · have hsz : a0.tmps.size = 153 := by rw [hs.size, hF]
                  have h8 : a0.tmps.getD 8 undef = .slice (some ⟨g, 0, none⟩) L.length cap := hsv
                  have h10 : a0.tmps.getD 10 undef = .int .i64 (p : Int) := hs.frame 10
                  have hp := hp1
                  have hl : L.length ≤ 1000 := by omega
                  clear hs hown hone hrep
                  have mixed : Tryz.prog.follows .mixedOrders = true := by kernel_rfl
                  have hp0 : p < L.length := by omega
                  have hw : IntKind.i64.wrap ((p : Int) + 1) = ((p + 1 : Nat) : Int) := by rw [wrap_i64 (by omega) (by omega)]; omega
                  have hq0 : (p : Int) < (L.length : Int) := by omega
                  have hq1 : (p : Int) + 1 < (L.length : Int) := by omega
                  have hq2 : (0 : Int) ≤ (p : Int) + 1 := by omega
                  obtain ⟨W0, hW0⟩ : ∃ w, ({ W with drawn := W.drawn + 1 } : World) = w := ⟨_, rfl⟩
                  have hC0 : Chg [g] W W0 := by rw [← hW0]; exact Chg.drew [g] W
                  have hg0 : W0.heap[g]? = some (.cells (rowA L rest) 9 (0, 0)) := by rw [← hW0]; exact hg
                  obtain ⟨W1, hW1⟩ : ∃ w, W0.setRow g (rowA (L.set p L[p + 1]) rest) = w := ⟨_, rfl⟩
                  have hs0 := store_str (w := L[p + 1]) hg0 hp0
                  rw [hW1] at hs0
                  have hg1 : W1.heap[g]? = some (.cells (rowA (L.set p L[p + 1]) rest) 9 (0, 0)) := by rw [← hW1]; exact setRow_heap W0 g _ _ _ _ hg0
                  have hC1 : Chg [g] W W1 := by rw [← hW1]; exact hC0.trans (chg_setRow [g] W0 g _ (.inl List.mem_cons_self))
                  obtain ⟨W2, hW2⟩ : ∃ w, W1.setRow g (rowA ((L.set p L[p + 1]).set (p + 1) L[p]) rest) = w := ⟨_, rfl⟩
                  have hs1 := store_str (w := L[p]) hg1 (p := p + 1) (by rw [List.length_set]; exact hp)
                  rw [hW2] at hs1
                  have hg2 : W2.heap[g]? = some (.cells (rowA ((L.set p L[p + 1]).set (p + 1) L[p]) rest) 9 (0, 0)) := by rw [← hW2]; exact setRow_heap W1 g _ _ _ _ hg1
                  have hC2 : Chg [g] W W2 := by rw [← hW2]; exact hC1.trans (chg_setRow [g] W1 g _ (.inl List.mem_cons_self))
                  have hc0 := rowA_cell hg0 hp0
                  have hc1 := rowA_cell hg0 hp
                  obtain ⟨val, hval⟩ : ∃ val : Nat → Value, val 0 = .slice (some ⟨g, 0, none⟩) L.length cap ∧ val 1 = .int .i64 (p : Int) ∧ val 2 = .slice (some ⟨g, 0, none⟩) L.length cap ∧ val 3 = .int .i64 (p : Int) ∧ val 4 = .int .i64 ((p + 1 : Nat) : Int) ∧ val 5 = .slice (some ⟨g, 0, none⟩) L.length cap ∧ val 6 = .int .i64 (p : Int) ∧ val 7 = .int .i64 ((p + 1 : Nat) : Int) ∧ val 8 = .pointer (some ⟨g, p + 1, none⟩) ∧ val 9 = sv L[p + 1] ∧ val 10 = .slice (some ⟨g, 0, none⟩) L.length cap ∧ val 11 = .int .i64 (p : Int) ∧ val 12 = .pointer (some ⟨g, p, none⟩) ∧ val 13 = sv L[p] ∧ val 14 = .pointer (some ⟨g, p, none⟩) ∧ val 16 = .pointer (some ⟨g, p + 1, none⟩) := ⟨fun i => match i with
                    | 0 => .slice (some ⟨g, 0, none⟩) L.length cap
                    | 1 => .int .i64 (p : Int)
                    | 2 => .slice (some ⟨g, 0, none⟩) L.length cap
                    | 3 => .int .i64 (p : Int)
                    | 4 => .int .i64 ((p + 1 : Nat) : Int)
                    | 5 => .slice (some ⟨g, 0, none⟩) L.length cap
                    | 6 => .int .i64 (p : Int)
                    | 7 => .int .i64 ((p + 1 : Nat) : Int)
                    | 8 => .pointer (some ⟨g, p + 1, none⟩)
                    | 9 => sv L[p + 1]
                    | 10 => .slice (some ⟨g, 0, none⟩) L.length cap
                    | 11 => .int .i64 (p : Int)
                    | 12 => .pointer (some ⟨g, p, none⟩)
                    | 13 => sv L[p]
                    | 14 => .pointer (some ⟨g, p, none⟩)
                    | 16 => .pointer (some ⟨g, p + 1, none⟩)
                    | _ => undef, rfl, rfl, rfl, rfl, rfl, rfl, rfl, rfl, rfl, rfl, rfl, rfl, rfl, rfl, rfl, rfl⟩
                  obtain ⟨v0, v1, v2, v3, v4, v5, v6, v7, v8, v9, v10, v11, v12, v13, v14, v16⟩ := hval
                  have hW0e := hW0
                  clear hW0 hW1 hW2 hg
                  refine wp_region_flowG (n := 153) mixed (fun i f _ => i = 15 ∨ i = 17 ∨ f i = val i) (fun listed w => w = if listed.getD 17 true then W2 else if listed.getD 15 true then W1 else W0)
                    (fun i w w' => w' = if i = 15 then W1 else if i = 17 then W2 else w) hsz (by kernel_rfl) ?hR0 ?hGR ?h0 ?hF ?hstep ?hend
                  case hR0 =>
                    intro i o w ho hgd
                    exfalso
                    exact hgd (eq_of_beq ((Array.all_eq_true_iff_forall_mem.1 (by kernel_rfl : Array.all _ (fun o : Oper => o.guard == none) = true)) o (Array.mem_of_getElem? ho)))
                  case h0 => exact (by rw [← hW0e]; rfl)
                  case hF =>
                    intro j _ i f x w w' _ hji _ hf _
                    rcases hf with q | q | q
                    · exact .inl q
                    · exact .inr (.inl q)
                    · exact .inr (.inr ((upd_other f x hji).trans q))
                  case hGR =>
                    intro i o ho listed w w' hls hun hcl hde hG hR
                    have hset : ∀ j, j ≠ i → (listed.setIfInBounds i true).getD j true = listed.getD j true := fun j hj => by
                      simp only [Array.getD_eq_getD_getElem?, Array.getElem?_setIfInBounds]
                      rw [if_neg (fun e => hj e.symm)]
                    have hsame : (listed.setIfInBounds i true).getD i true = true := by
                      simp only [Array.getD_eq_getD_getElem?, Array.getElem?_setIfInBounds]
                      split <;> (try split) <;> simp_all
                    show w' = _
                    have hR : w' = if i = 15 then W1 else if i = 17 then W2 else w := hR
                    have hG : w = if listed.getD 17 true then W2 else if listed.getD 15 true then W1 else W0 := hG
                    by_cases e17 : i = 17
                    · subst e17; rw [hsame, if_pos rfl]; rw [hR]; rfl
                    · rw [hset 17 (fun e => e17 e.symm)]
                      by_cases e15 : i = 15
                      · subst e15
                        have h17 : listed.getD 17 true = false := unl_of (md := .any) hls hun hcl (j := 17) (e := ⟨15, .chain⟩) rfl (Array.mem_of_getElem? (i := 2) rfl) rfl rfl (by decide)
                        rw [h17, hsame, hR]; rfl
                      · rw [hset 15 (fun e => e15 e.symm), hR, if_neg e15, if_neg e17]; exact hG
                  case hstep =>
                    change ∀ i, i < 18 → _
                    iterate 18 (refine forall_lt_succ' ?_ ?_)
                    · exact forall_lt_zero'
                    · intro o ho listed a w hls hun hcl hde hG hk hd; injection (show some _ = some o from ho) with ho; subst ho
                      have s8 : a.tmps[8]?.getD (Value.tuple #[]) = .slice (some ⟨g, 0, none⟩) L.length cap := by show a.tmps[8]?.getD undef = _; rw [← Array.getD_eq_getD_getElem?]; exact (hk.get (ds := [72, 73, 74, 75, 76, 77, 78, 79, 80, 81, 82, 83, 84, 85, 86, 1000015, 87, 1000017]) (by kernel_rfl) 8 (by decide)).trans h8
                      simp [Region.wanted, Oper.wp, execOp, go_sem, s8]
                      exact ⟨_, rfl, (upd_same _ _ _).trans v0.symm⟩
                    · intro o ho listed a w hls hun hcl hde hG hk hd; injection (show some _ = some o from ho) with ho; subst ho
                      have s10 : a.tmps[10]?.getD (Value.tuple #[]) = .int .i64 (p : Int) := by show a.tmps[10]?.getD undef = _; rw [← Array.getD_eq_getD_getElem?]; exact (hk.get (ds := [72, 73, 74, 75, 76, 77, 78, 79, 80, 81, 82, 83, 84, 85, 86, 1000015, 87, 1000017]) (by kernel_rfl) 10 (by decide)).trans h10
                      simp [Region.wanted, Oper.wp, execOp, go_sem, s10]
                      exact ⟨_, rfl, (upd_same _ _ _).trans v1.symm⟩
                    · intro o ho listed a w hls hun hcl hde hG hk hd; injection (show some _ = some o from ho) with ho; subst ho
                      have s8 : a.tmps[8]?.getD (Value.tuple #[]) = .slice (some ⟨g, 0, none⟩) L.length cap := by show a.tmps[8]?.getD undef = _; rw [← Array.getD_eq_getD_getElem?]; exact (hk.get (ds := [72, 73, 74, 75, 76, 77, 78, 79, 80, 81, 82, 83, 84, 85, 86, 1000015, 87, 1000017]) (by kernel_rfl) 8 (by decide)).trans h8
                      simp [Region.wanted, Oper.wp, execOp, go_sem, s8]
                      exact ⟨_, rfl, (upd_same _ _ _).trans v2.symm⟩
                    · intro o ho listed a w hls hun hcl hde hG hk hd; injection (show some _ = some o from ho) with ho; subst ho
                      have s10 : a.tmps[10]?.getD (Value.tuple #[]) = .int .i64 (p : Int) := by show a.tmps[10]?.getD undef = _; rw [← Array.getD_eq_getD_getElem?]; exact (hk.get (ds := [72, 73, 74, 75, 76, 77, 78, 79, 80, 81, 82, 83, 84, 85, 86, 1000015, 87, 1000017]) (by kernel_rfl) 10 (by decide)).trans h10
                      simp [Region.wanted, Oper.wp, execOp, go_sem, s10]
                      exact ⟨_, rfl, (upd_same _ _ _).trans v3.symm⟩
                    · intro o ho listed a w hls hun hcl hde hG hk hd; injection (show some _ = some o from ho) with ho; subst ho
                      have f3 : a.tmps[75]?.getD (Value.tuple #[]) = .int .i64 (p : Int) := by show a.tmps[75]?.getD undef = _; rw [← Array.getD_eq_getD_getElem?]; exact ((hd ⟨3, .data⟩ (by simp) rfl).resolve_left (by decide)).resolve_left (by decide) |>.trans v3
                      simp [Region.wanted, Oper.wp, execOp, go_sem, f3, hw]
                      exact ⟨_, rfl, (upd_same _ _ _).trans v4.symm⟩
                    · intro o ho listed a w hls hun hcl hde hG hk hd; injection (show some _ = some o from ho) with ho; subst ho
                      have s8 : a.tmps[8]?.getD (Value.tuple #[]) = .slice (some ⟨g, 0, none⟩) L.length cap := by show a.tmps[8]?.getD undef = _; rw [← Array.getD_eq_getD_getElem?]; exact (hk.get (ds := [72, 73, 74, 75, 76, 77, 78, 79, 80, 81, 82, 83, 84, 85, 86, 1000015, 87, 1000017]) (by kernel_rfl) 8 (by decide)).trans h8
                      simp [Region.wanted, Oper.wp, execOp, go_sem, s8]
                      exact ⟨_, rfl, (upd_same _ _ _).trans v5.symm⟩
                    · intro o ho listed a w hls hun hcl hde hG hk hd; injection (show some _ = some o from ho) with ho; subst ho
                      have s10 : a.tmps[10]?.getD (Value.tuple #[]) = .int .i64 (p : Int) := by show a.tmps[10]?.getD undef = _; rw [← Array.getD_eq_getD_getElem?]; exact (hk.get (ds := [72, 73, 74, 75, 76, 77, 78, 79, 80, 81, 82, 83, 84, 85, 86, 1000015, 87, 1000017]) (by kernel_rfl) 10 (by decide)).trans h10
                      simp [Region.wanted, Oper.wp, execOp, go_sem, s10]
                      exact ⟨_, rfl, (upd_same _ _ _).trans v6.symm⟩
                    · intro o ho listed a w hls hun hcl hde hG hk hd; injection (show some _ = some o from ho) with ho; subst ho
                      have f6 : a.tmps[78]?.getD (Value.tuple #[]) = .int .i64 (p : Int) := by show a.tmps[78]?.getD undef = _; rw [← Array.getD_eq_getD_getElem?]; exact ((hd ⟨6, .data⟩ (by simp) rfl).resolve_left (by decide)).resolve_left (by decide) |>.trans v6
                      simp [Region.wanted, Oper.wp, execOp, go_sem, f6, hw]
                      exact ⟨_, rfl, (upd_same _ _ _).trans v7.symm⟩
                    · intro o ho listed a w hls hun hcl hde hG hk hd; injection (show some _ = some o from ho) with ho; subst ho
                      have f5 : a.tmps[77]?.getD (Value.tuple #[]) = .slice (some ⟨g, 0, none⟩) L.length cap := by show a.tmps[77]?.getD undef = _; rw [← Array.getD_eq_getD_getElem?]; exact ((hd ⟨5, .data⟩ (by simp) rfl).resolve_left (by decide)).resolve_left (by decide) |>.trans v5
                      have f7 : a.tmps[79]?.getD (Value.tuple #[]) = .int .i64 ((p + 1 : Nat) : Int) := by show a.tmps[79]?.getD undef = _; rw [← Array.getD_eq_getD_getElem?]; exact ((hd ⟨7, .data⟩ (by simp) rfl).resolve_left (by decide)).resolve_left (by decide) |>.trans v7
                      simp [Region.wanted, Oper.wp, execOp, go_sem, f5, f7, hq0, hq1, hq2]
                      exact ⟨_, rfl, (upd_same _ _ _).trans v8.symm⟩
                    · intro o ho listed a w hls hun hcl hde hG hk hd; injection (show some _ = some o from ho) with ho; subst ho
                      have f8 : a.tmps[80]?.getD (Value.tuple #[]) = .pointer (some ⟨g, p + 1, none⟩) := by show a.tmps[80]?.getD undef = _; rw [← Array.getD_eq_getD_getElem?]; exact ((hd ⟨8, .data⟩ (by simp) rfl).resolve_left (by decide)).resolve_left (by decide) |>.trans v8
                      have h15 : listed.getD 15 true = false := unl_of (md := .any) hls hun hcl (j := 15) (e := ⟨9, .data⟩) rfl (Array.mem_of_getElem? (i := 1) rfl) rfl rfl (by decide)
                      have h17 : listed.getD 17 true = false := unl_of (md := .any) hls hun hcl (j := 17) (e := ⟨9, .phase⟩) rfl (Array.mem_of_getElem? (i := 12) rfl) rfl rfl (by decide)
                      have hw0 : w = W0 := by rw [h17, h15] at hG; exact hG
                      subst hw0
                      simp [Region.wanted, Oper.wp, execOp, go_sem, f8, hc1]
                      exact ⟨_, rfl, (upd_same _ _ _).trans v9.symm⟩
                    · intro o ho listed a w hls hun hcl hde hG hk hd; injection (show some _ = some o from ho) with ho; subst ho
                      have s8 : a.tmps[8]?.getD (Value.tuple #[]) = .slice (some ⟨g, 0, none⟩) L.length cap := by show a.tmps[8]?.getD undef = _; rw [← Array.getD_eq_getD_getElem?]; exact (hk.get (ds := [72, 73, 74, 75, 76, 77, 78, 79, 80, 81, 82, 83, 84, 85, 86, 1000015, 87, 1000017]) (by kernel_rfl) 8 (by decide)).trans h8
                      simp [Region.wanted, Oper.wp, execOp, go_sem, s8]
                      exact ⟨_, rfl, (upd_same _ _ _).trans v10.symm⟩
                    · intro o ho listed a w hls hun hcl hde hG hk hd; injection (show some _ = some o from ho) with ho; subst ho
                      have s10 : a.tmps[10]?.getD (Value.tuple #[]) = .int .i64 (p : Int) := by show a.tmps[10]?.getD undef = _; rw [← Array.getD_eq_getD_getElem?]; exact (hk.get (ds := [72, 73, 74, 75, 76, 77, 78, 79, 80, 81, 82, 83, 84, 85, 86, 1000015, 87, 1000017]) (by kernel_rfl) 10 (by decide)).trans h10
                      simp [Region.wanted, Oper.wp, execOp, go_sem, s10]
                      exact ⟨_, rfl, (upd_same _ _ _).trans v11.symm⟩
                    · intro o ho listed a w hls hun hcl hde hG hk hd; injection (show some _ = some o from ho) with ho; subst ho
                      have f10 : a.tmps[82]?.getD (Value.tuple #[]) = .slice (some ⟨g, 0, none⟩) L.length cap := by show a.tmps[82]?.getD undef = _; rw [← Array.getD_eq_getD_getElem?]; exact ((hd ⟨10, .data⟩ (by simp) rfl).resolve_left (by decide)).resolve_left (by decide) |>.trans v10
                      have f11 : a.tmps[83]?.getD (Value.tuple #[]) = .int .i64 (p : Int) := by show a.tmps[83]?.getD undef = _; rw [← Array.getD_eq_getD_getElem?]; exact ((hd ⟨11, .data⟩ (by simp) rfl).resolve_left (by decide)).resolve_left (by decide) |>.trans v11
                      simp [Region.wanted, Oper.wp, execOp, go_sem, f10, f11, hq0, hq1, hq2]
                      exact ⟨_, rfl, (upd_same _ _ _).trans v12.symm⟩
                    · intro o ho listed a w hls hun hcl hde hG hk hd; injection (show some _ = some o from ho) with ho; subst ho
                      have f12 : a.tmps[84]?.getD (Value.tuple #[]) = .pointer (some ⟨g, p, none⟩) := by show a.tmps[84]?.getD undef = _; rw [← Array.getD_eq_getD_getElem?]; exact ((hd ⟨12, .data⟩ (by simp) rfl).resolve_left (by decide)).resolve_left (by decide) |>.trans v12
                      have h15 : listed.getD 15 true = false := unl_of (md := .any) hls hun hcl (j := 15) (e := ⟨13, .phase⟩) rfl (Array.mem_of_getElem? (i := 15) rfl) rfl rfl (by decide)
                      have h17 : listed.getD 17 true = false := unl_of (md := .any) hls hun hcl (j := 17) (e := ⟨13, .data⟩) rfl (Array.mem_of_getElem? (i := 1) rfl) rfl rfl (by decide)
                      have hw0 : w = W0 := by rw [h17, h15] at hG; exact hG
                      subst hw0
                      simp [Region.wanted, Oper.wp, execOp, go_sem, f12, hc0]
                      exact ⟨_, rfl, (upd_same _ _ _).trans v13.symm⟩
                    · intro o ho listed a w hls hun hcl hde hG hk hd; injection (show some _ = some o from ho) with ho; subst ho
                      have f0 : a.tmps[72]?.getD (Value.tuple #[]) = .slice (some ⟨g, 0, none⟩) L.length cap := by show a.tmps[72]?.getD undef = _; rw [← Array.getD_eq_getD_getElem?]; exact ((hd ⟨0, .data⟩ (by simp) rfl).resolve_left (by decide)).resolve_left (by decide) |>.trans v0
                      have f1 : a.tmps[73]?.getD (Value.tuple #[]) = .int .i64 (p : Int) := by show a.tmps[73]?.getD undef = _; rw [← Array.getD_eq_getD_getElem?]; exact ((hd ⟨1, .data⟩ (by simp) rfl).resolve_left (by decide)).resolve_left (by decide) |>.trans v1
                      simp [Region.wanted, Oper.wp, execOp, go_sem, f0, f1, hq0, hq1, hq2]
                      exact ⟨_, rfl, (upd_same _ _ _).trans v14.symm⟩
                    · intro o ho listed a w hls hun hcl hde hG hk hd; injection (show some _ = some o from ho) with ho; subst ho
                      have f14 : a.tmps[86]?.getD (Value.tuple #[]) = .pointer (some ⟨g, p, none⟩) := by show a.tmps[86]?.getD undef = _; rw [← Array.getD_eq_getD_getElem?]; exact ((hd ⟨14, .data⟩ (by simp) rfl).resolve_left (by decide)).resolve_left (by decide) |>.trans v14
                      have f9 : a.tmps[81]?.getD (Value.tuple #[]) = sv L[p + 1] := by show a.tmps[81]?.getD undef = _; rw [← Array.getD_eq_getD_getElem?]; exact ((hd ⟨9, .data⟩ (by simp) rfl).resolve_left (by decide)).resolve_left (by decide) |>.trans v9
                      have h17 : listed.getD 17 true = false := unl_of (md := .any) hls hun hcl (j := 17) (e := ⟨15, .chain⟩) rfl (Array.mem_of_getElem? (i := 2) rfl) rfl rfl (by decide)
                      have hw0 : w = W0 := by rw [h17, hun] at hG; exact hG
                      subst hw0
                      have e1 : a.eval (.tmp 86) = .pointer (some ⟨g, p, none⟩) := by show a.tmps.getD 86 undef = _; rw [Array.getD_eq_getD_getElem?]; exact f14
                      have e2 : a.eval (.tmp 81) = sv L[p + 1] := by show a.tmps.getD 81 undef = _; rw [Array.getD_eq_getD_getElem?]; exact f9
                      simp only [List.getElem_toArray, List.getElem_cons_succ, List.getElem_cons_zero]
                      rw [if_pos (show Region.wanted _ _ = true from rfl)]
                      unfold Oper.wp execOp
                      simp only [e1, e2, Sem.run_bind, hs0, Result.andThen_ok, Sem.run_pure, Oper.upon]
                      exact ⟨undef, rfl, .inl trivial, rfl⟩
                    · intro o ho listed a w hls hun hcl hde hG hk hd; injection (show some _ = some o from ho) with ho; subst ho
                      have f2 : a.tmps[74]?.getD (Value.tuple #[]) = .slice (some ⟨g, 0, none⟩) L.length cap := by show a.tmps[74]?.getD undef = _; rw [← Array.getD_eq_getD_getElem?]; exact ((hd ⟨2, .data⟩ (by simp) rfl).resolve_left (by decide)).resolve_left (by decide) |>.trans v2
                      have f4 : a.tmps[76]?.getD (Value.tuple #[]) = .int .i64 ((p + 1 : Nat) : Int) := by show a.tmps[76]?.getD undef = _; rw [← Array.getD_eq_getD_getElem?]; exact ((hd ⟨4, .data⟩ (by simp) rfl).resolve_left (by decide)).resolve_left (by decide) |>.trans v4
                      simp [Region.wanted, Oper.wp, execOp, go_sem, f2, f4, hq0, hq1, hq2]
                      exact ⟨_, rfl, (upd_same _ _ _).trans v16.symm⟩
                    · intro o ho listed a w hls hun hcl hde hG hk hd; injection (show some _ = some o from ho) with ho; subst ho
                      have f16 : a.tmps[87]?.getD (Value.tuple #[]) = .pointer (some ⟨g, p + 1, none⟩) := by show a.tmps[87]?.getD undef = _; rw [← Array.getD_eq_getD_getElem?]; exact ((hd ⟨16, .data⟩ (by simp) rfl).resolve_left (by decide)).resolve_left (by decide) |>.trans v16
                      have f13 : a.tmps[85]?.getD (Value.tuple #[]) = sv L[p] := by show a.tmps[85]?.getD undef = _; rw [← Array.getD_eq_getD_getElem?]; exact ((hd ⟨13, .data⟩ (by simp) rfl).resolve_left (by decide)).resolve_left (by decide) |>.trans v13
                      have h15 : listed.getD 15 true = true := by rw [← getD_ft (by rw [hls]; decide)]; exact hde ⟨15, .chain⟩ (Array.mem_of_getElem? (i := 2) rfl) rfl
                      have hw0 : w = W1 := by rw [h15, hun] at hG; exact hG
                      subst hw0
                      have e1 : a.eval (.tmp 87) = .pointer (some ⟨g, p + 1, none⟩) := by show a.tmps.getD 87 undef = _; rw [Array.getD_eq_getD_getElem?]; exact f16
                      have e2 : a.eval (.tmp 85) = sv L[p] := by show a.tmps.getD 85 undef = _; rw [Array.getD_eq_getD_getElem?]; exact f13
                      simp only [List.getElem_toArray, List.getElem_cons_succ, List.getElem_cons_zero]
                      rw [if_pos (show Region.wanted _ _ = true from rfl)]
                      unfold Oper.wp execOp
                      simp only [e1, e2, Sem.run_bind, hs1, Result.andThen_ok, Sem.run_pure, Oper.upon]
                      exact ⟨undef, rfl, .inr (.inl trivial), rfl⟩
                  case hend =>
                    intro listed a w hall hG hk hf
                    have h17 := hall 17 (by decide)
                    have hw2 : w = W2 := by rw [h17] at hG; exact hG
                    subst hw2
                    exact ⟨rfl, hk.size, hk.defers, (fun k hk2 => hk.get (ds := [72, 73, 74, 75, 76, 77, 78, 79, 80, 81, 82, 83, 84, 85, 86, 1000015, 87, 1000017]) (by kernel_rfl) k hk2), hC2, hg2⟩
                rintro e a' W' ⟨rfl, q1, q2, q3, q4, q5⟩
                have hob : own (a0.tmps.getD 8 undef) = [g] := by rw [hsv]; rfl
                have h88 : a'.tmps.getD 8 undef = a0.tmps.getD 8 undef := q3 8 (by decide)
                rw [← hsw] at q5
                refine ⟨rfl, q1, q2, fun i hi => q3 i (by
                  simp only [List.mem_cons, List.not_mem_nil, or_false] at hi
                  rcases hi with rfl | rfl | rfl <;> decide), M.map sv, ?_, strs_one _, fun S => strs_repL S _, ?_, ?_, ?_⟩
                · rw [h88, hsv, List.length_map, hMl]
                  refine ⟨by rw [List.length_map, hMl, Nat.mul_one], .inr ⟨g, cap, _, rfl, Nat.zero_le _, q5, hnc, hcm, by rw [rowA_size, hMl]; exact hcs, ?_⟩⟩
                  unfold rowA
                  rw [Nat.mul_one, List.toList_toArray, List.take_append_of_le_length (by rw [List.length_map, hMl]; exact Nat.le_refl _), List.take_of_length_le (by rw [List.length_map, hMl]; exact Nat.le_refl _)]
                · rw [hob]; exact q4
                · intro b hb
                  rw [h88] at hb; exact .inl hb
                · intro _; exact h88
              · simp only [List.length_map, go_sem, Int.reduceEq, Int.reduceLT, Nat.reduceEqDiff, Nat.reduceAdd, Nat.reduceMul, Nat.reduceLT, Nat.reduceLeDiff, Int.reduceToNat]
                first | exact ⟨0, rfl⟩ | exact ⟨0, rfl, by simp⟩
            · rw [hf] at hB
              rw [if_neg (by
                rintro ⟨k1, k2⟩
                rw [decide_eq_true k1, Bool.true_and] at hB
                cases h1 : headT L[p] <;> cases h2 : headT (L.getD (p + 1) []) <;> rw [h1, h2] at hB k2 <;> first | exact k2 ⟨rfl, rfl⟩ | cases hB)] at hmv
              refine vwp_skip ?_
              simp only [go_sem, Int.reduceEq, Int.reduceLT, Nat.reduceEqDiff, Nat.reduceAdd, Nat.reduceMul, Nat.reduceLT, Nat.reduceLeDiff, Int.reduceToNat]
              exact ⟨0, rfl, by simp [hmv]⟩
        intro z hz
        have f3 : ∀ x : Bool, decide (M.length > 60) = x → decide ((M.length : Int) > 60) = x ∧ decide ((60 : Int) < (M.length : Int)) = x := fun x hx => by
          rw [← hx]; exact ⟨decide_eq_decide.2 (by omega), decide_eq_decide.2 (by omega)⟩
        by_cases hbig : M.length > 60
        · obtain ⟨f4, f5⟩ := f3 true (decide_eq_true hbig)
          rw [if_pos hbig] at hstep
          have hMR : M = R := by rw [← hstep]; exact hlay
          refine vwp_seq_k fun Ns hNs => vreg tt_ok hF rfl ?_; simp only [f4, f5, go_sem, Int.reduceEq, Int.reduceLT, Nat.reduceEqDiff, Nat.reduceAdd, Nat.reduceMul, Nat.reduceLT, Nat.reduceLeDiff, Int.reduceToNat]
          refine hNs _ (VWp.keep [1,5,8,9,122] [5,500011] ?_); simp only [go_sem, Int.reduceEq, Int.reduceLT, Nat.reduceEqDiff, Nat.reduceAdd, Nat.reduceMul, Nat.reduceLT, Nat.reduceLeDiff, Int.reduceToNat]
          refine vif rfl ⟨fun ht => ?_, (fun hf => by first | cases hf | exact absurd hf (by decide))⟩
          refine vwp_exit ?_
          simp only [go_sem, Int.reduceEq, Int.reduceLT, Nat.reduceEqDiff, Nat.reduceAdd, Nat.reduceMul, Nat.reduceLT, Nat.reduceLeDiff, Int.reduceToNat]
          exact ⟨0, rfl, by simp [hMR]⟩
        · obtain ⟨f4, f5⟩ := f3 false (decide_eq_false hbig)
          refine vwp_seq_k fun Ns hNs => vreg tt_ok hF rfl ?_; simp only [f4, f5, go_sem, Int.reduceEq, Int.reduceLT, Nat.reduceEqDiff, Nat.reduceAdd, Nat.reduceMul, Nat.reduceLT, Nat.reduceLeDiff, Int.reduceToNat]
          refine hNs _ (VWp.keep [1,5,8,9,122] [5,500011] ?_); simp only [go_sem, Int.reduceEq, Int.reduceLT, Nat.reduceEqDiff, Nat.reduceAdd, Nat.reduceMul, Nat.reduceLT, Nat.reduceLeDiff, Int.reduceToNat]
          refine vif rfl ⟨(fun hf => by first | cases hf | exact absurd hf (by decide)), fun ht => ?_⟩
          refine vwp_skip ?_
          simp only [go_sem, Int.reduceEq, Int.reduceLT, Nat.reduceEqDiff, Nat.reduceAdd, Nat.reduceMul, Nat.reduceLT, Nat.reduceLeDiff, Int.reduceToNat]
          first | exact ⟨0, ⟨rfl, by omega⟩, by simp⟩ | exact ⟨0, rfl, by omega⟩ | exact ⟨0, rfl, by omega, by simp⟩
      · rintro z ⟨_, hM60⟩
        rw [if_neg (by omega)] at hstep
        refine vreg tt_ok hF rfl ?_; simp only [go_sem, Int.reduceEq, Int.reduceLT, Nat.reduceEqDiff, Nat.reduceAdd, Nat.reduceMul, Nat.reduceLT, Nat.reduceLeDiff, Int.reduceToNat]
        rw [wrap_i64 (by omega) (by omega)]
        exact ⟨(k + 1, M), ⟨by simp only; omega, by simp only; omega, hM0, hM60, ⟨_, hI2⟩, by simp only; rw [← hstep]; exact hlay⟩, by simp only; omega, by simp only [go_sem, Int.reduceEq, Int.reduceLT, Nat.reduceEqDiff, Nat.reduceAdd, Nat.reduceMul, Nat.reduceLT, Nat.reduceLeDiff, Int.reduceToNat]; try simp⟩
    · have hnil : (ch.take 60).drop k = [] := List.drop_eq_nil_of_le (by rw [List.length_take]; omega)
      rw [hnil, layT] at hlay
      by_cases hk1 : k < ch.length
      · have f1 : decide ((k : Int) < (ch.length : Int)) = true := decide_eq_true (by omega)
        have f2 : decide ((k : Int) < 60) = false := decide_eq_false (by omega)
        refine vwp_seq_k fun Nk hNk => vreg tt_ok hF rfl ?_; simp only [f1, f2, bytesR_len, go_sem, Int.reduceEq, Int.reduceLT, Nat.reduceEqDiff, Nat.reduceAdd, Nat.reduceMul, Nat.reduceLT, Nat.reduceLeDiff, Int.reduceToNat]
        refine hNk _ (VWp.keep [1,5,8,9,34] [5,500011] ?_); simp only [go_sem, Int.reduceEq, Int.reduceLT, Nat.reduceEqDiff, Nat.reduceAdd, Nat.reduceMul, Nat.reduceLT, Nat.reduceLeDiff, Int.reduceToNat]
        refine vif rfl ⟨(fun hf => by first | cases hf | exact absurd hf (by decide)), fun ht => ?_⟩
        refine vwp_exit ?_
        simp only [go_sem, Int.reduceEq, Int.reduceLT, Nat.reduceEqDiff, Nat.reduceAdd, Nat.reduceMul, Nat.reduceLT, Nat.reduceLeDiff, Int.reduceToNat]
        exact ⟨0, rfl, by simp [hlay]⟩
      · have f1 : decide ((k : Int) < (ch.length : Int)) = false := decide_eq_false (by omega)
        refine vwp_seq_k fun Nk hNk => vreg tt_ok hF rfl ?_; simp only [f1, bytesR_len, go_sem, Int.reduceEq, Int.reduceLT, Nat.reduceEqDiff, Nat.reduceAdd, Nat.reduceMul, Nat.reduceLT, Nat.reduceLeDiff, Int.reduceToNat]
        refine hNk _ (VWp.keep [1,5,8,9,34] [5,500011] ?_); simp only [go_sem, Int.reduceEq, Int.reduceLT, Nat.reduceEqDiff, Nat.reduceAdd, Nat.reduceMul, Nat.reduceLT, Nat.reduceLeDiff, Int.reduceToNat]
        refine vif rfl ⟨(fun hf => by first | cases hf | exact absurd hf (by decide)), fun ht => ?_⟩
        refine vwp_exit ?_
        simp only [go_sem, Int.reduceEq, Int.reduceLT, Nat.reduceEqDiff, Nat.reduceAdd, Nat.reduceMul, Nat.reduceLT, Nat.reduceLeDiff, Int.reduceToNat]
        exact ⟨0, rfl, by simp [hlay]⟩
  · intro z _
    refine VWp.coolW 500011 8 1 [5] [5] (rows := R.map strR) (by show V.own 500011 R.length = _; rw [List.length_map]) rfl (by intro e; rw [List.map_eq_nil_iff] at e; rw [e] at hRp; exact absurd hRp (by decide)) (strs_flat R) (by decide) (by simp only [go_sem, Int.reduceEq, Int.reduceLT, Nat.reduceEqDiff, Nat.reduceAdd, Nat.reduceMul, Nat.reduceLT, Nat.reduceLeDiff, Int.reduceToNat]; try trivial) ?_
    simp only [go_sem, Int.reduceEq, Int.reduceLT, Nat.reduceEqDiff, Nat.reduceAdd, Nat.reduceMul, Nat.reduceLT, Nat.reduceLeDiff, Int.reduceToNat]
    refine vwp_seq_k fun Nt hNt => vreg tt_ok hF rfl ?_; simp only [go_sem, Int.reduceEq, Int.reduceLT, Nat.reduceEqDiff, Nat.reduceAdd, Nat.reduceMul, Nat.reduceLT, Nat.reduceLeDiff, Int.reduceToNat]
    refine hNt _ (VWp.keep [5,8,11] [5] ?_); simp only [go_sem, Int.reduceEq, Int.reduceLT, Nat.reduceEqDiff, Nat.reduceAdd, Nat.reduceMul, Nat.reduceLT, Nat.reduceLeDiff, Int.reduceToNat]
    refine vwp_seq_k fun Nu hNu => ?_
    refine vwp_seq_k fun Nv hNv => vreg tt_ok hF rfl ?_; simp only [List.length_map, go_sem, Int.reduceEq, Int.reduceLT, Nat.reduceEqDiff, Nat.reduceAdd, Nat.reduceMul, Nat.reduceLT, Nat.reduceLeDiff, Int.reduceToNat]
    refine hNv _ (VWp.keep [5,8,11,124,125] [5] ?_); simp only [go_sem, Int.reduceEq, Int.reduceLT, Nat.reduceEqDiff, Nat.reduceAdd, Nat.reduceMul, Nat.reduceLT, Nat.reduceLeDiff, Int.reduceToNat]
    refine vwp_block ?_
    refine vloop (fun k : Nat => [(5, .ptr 5 0), (8, .sl 1 (R.map strR)), (11, .str (((R.take k).map (· ++ [10])).flatten)), (124, .int .i64 (R.length : Int)), (125, .int .i64 (k : Int))]) (fun _ => [(5, .box 25 [.sl 5 (c.us.map uniC), .int .i64 c.store, .sl 2 (c.ps.map parC)])]) (fun k => k ≤ R.length) (fun k => R.length - k) 0 (by omega) (by simp only [go_sem, Int.reduceEq, Int.reduceLT, Nat.reduceEqDiff, Nat.reduceAdd, Nat.reduceMul, Nat.reduceLT, Nat.reduceLeDiff, Int.reduceToNat]; try simp) ?_
    intro k hk
    refine vwp_seq_k fun Nw hNw => vreg tt_ok hF rfl ?_; simp only [go_sem, Int.reduceEq, Int.reduceLT, Nat.reduceEqDiff, Nat.reduceAdd, Nat.reduceMul, Nat.reduceLT, Nat.reduceLeDiff, Int.reduceToNat]
    refine hNw _ (VWp.keep [5,8,11,124,125,126] [5] ?_); simp only [go_sem, Int.reduceEq, Int.reduceLT, Nat.reduceEqDiff, Nat.reduceAdd, Nat.reduceMul, Nat.reduceLT, Nat.reduceLeDiff, Int.reduceToNat]
    refine vwp_seq_k fun Nx hNx => ?_
    refine vif rfl ⟨fun ht => ?_, fun hf => ?_⟩
    · have hlt : k < R.length := by have := of_decide_eq_true ht; omega
      have hget := str_row hlt
      have hsn := text_snoc hlt
      have htl := text_len R (k + 1)
      rw [hsn] at htl
      simp only [List.length_append, List.length_cons, List.length_nil] at htl
      refine vwp_skip (hNx _ ?_)
      refine vwp_seq_k fun Ny hNy => ?_
      refine vwp_block ?_
      refine vwp_seq_k fun Nz hNz => vreg tt_ok hF rfl ?_; simp only [go_sem, Int.reduceEq, Int.reduceLT, Nat.reduceEqDiff, Nat.reduceAdd, Nat.reduceMul, Nat.reduceLT, Nat.reduceLeDiff, Int.reduceToNat]
      refine hNz _ (VWp.keep [5,8,11,12,124,125] [5] ?_); simp only [go_sem, Int.reduceEq, Int.reduceLT, Nat.reduceEqDiff, Nat.reduceAdd, Nat.reduceMul, Nat.reduceLT, Nat.reduceLeDiff, Int.reduceToNat]
      refine vreg tt_ok hF rfl ?_
      simp only [hget, Int.toNat_natCast, List.length_map, go_sem, Int.reduceEq, Int.reduceLT, Nat.reduceEqDiff, Nat.reduceAdd, Nat.reduceMul, Nat.reduceLT, Nat.reduceLeDiff, Int.reduceToNat]
      refine ⟨⟨by omega, by omega⟩, by omega, by rw [List.length_append]; omega, ?_⟩
      refine hNy _ (VWp.keep [5,8,11,124,125] [5] ?_); simp only [go_sem, Int.reduceEq, Int.reduceLT, Nat.reduceEqDiff, Nat.reduceAdd, Nat.reduceMul, Nat.reduceLT, Nat.reduceLeDiff, Int.reduceToNat]
      refine vreg tt_ok hF rfl ?_; simp only [go_sem, Int.reduceEq, Int.reduceLT, Nat.reduceEqDiff, Nat.reduceAdd, Nat.reduceMul, Nat.reduceLT, Nat.reduceLeDiff, Int.reduceToNat]
      rw [wrap_i64 (by omega) (by omega)]
      exact ⟨k + 1, by omega, by omega, by first | (rw [hsn]; simp) | simp [hsn]⟩
    · have hke : k = R.length := by have := of_decide_eq_false hf; omega
      rw [hke, List.take_length]
      refine vwp_exit ?_
      simp only [go_sem, Int.reduceEq, Int.reduceLT, Nat.reduceEqDiff, Nat.reduceAdd, Nat.reduceMul, Nat.reduceLT, Nat.reduceLeDiff, Int.reduceToNat]
      refine hNu _ (VWp.keepR [5,11] [5] tt_ok hF rfl fun Nak hNak => ?_); simp only [go_sem, Int.reduceEq, Int.reduceLT, Nat.reduceEqDiff, Nat.reduceAdd, Nat.reduceMul, Nat.reduceLT, Nat.reduceLeDiff, Int.reduceToNat]
      refine .inl ⟨_, hpa, ?_⟩; try simp only [go_sem, Int.reduceEq, Int.reduceLT, Nat.reduceEqDiff, Nat.reduceAdd, Nat.reduceMul, Nat.reduceLT, Nat.reduceLeDiff, Int.reduceToNat]
      refine hNak _ (VWp.keepR [5,13,14,15] [5,13] tt_ok hF rfl fun Nal hNal => ?_); simp only [decide_true, go_sem, Int.reduceEq, Int.reduceLT, Nat.reduceEqDiff, Nat.reduceAdd, Nat.reduceMul, Nat.reduceLT, Nat.reduceLeDiff, Int.reduceToNat]
      refine .inl ⟨_, heq, ?_⟩; try simp only [go_sem, Int.reduceEq, Int.reduceLT, Nat.reduceEqDiff, Nat.reduceAdd, Nat.reduceMul, Nat.reduceLT, Nat.reduceLeDiff, Int.reduceToNat]
      refine hNal _ (VWp.keep [4] [] ?_); simp only [go_sem, Int.reduceEq, Int.reduceLT, Nat.reduceEqDiff, Nat.reduceAdd, Nat.reduceMul, Nat.reduceLT, Nat.reduceLeDiff, Int.reduceToNat]
      (refine vwp_ret ?_; simp only [go_sem, Int.reduceEq, Int.reduceLT, Nat.reduceEqDiff, Nat.reduceAdd, Nat.reduceMul, Nat.reduceLT, Nat.reduceLeDiff, Int.reduceToNat]; first | exact LeV.refl _ | exact LeV.of_eq (by simp))
end Go.Proofs.YtedbbinlcdgkoaaGreatDoor
