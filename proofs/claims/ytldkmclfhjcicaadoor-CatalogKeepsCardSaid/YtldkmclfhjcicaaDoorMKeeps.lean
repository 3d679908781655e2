import Derived.Outline
import Derived.Test.YtldkmclfhjcicaaDoorWG
import Derived.Test.YtldkmclfhjcicaaDoorWK
/- CatalogKeeps. -/
-- SIMP: catV, entsV, grpsV, entV, entC, grpC, beq_self_eq_true, Bool.and_self, opV, opC
namespace Go.Proofs.YtldkmclfhjcicaaDoor
open Go.RowKit
set_option linter.unusedVariables false
set_option linter.unusedSimpArgs false
theorem fnd_list (n : Bs) : ∀ es : List Ent, (if n ∈ namesS es then (es.getD ((namesS es).idxOf n) default, true) else (default, false)) = (match es.find? (fun e => decide (e.name = n)) with | some e => (e, true) | none => ((default : Ent), false))
  | [] => by simp [namesS]
  | e :: es => by
    have ih := fnd_list n es
    by_cases h : e.name = n
    · have h1 : n ∈ namesS (e :: es) := by simp [namesS, h]
      rw [if_pos h1, List.find?_cons_of_pos (by simpa using h)]
      simp [namesS, h]
    · have h2 : (n ∈ namesS (e :: es)) ↔ n ∈ namesS es := by simp only [namesS, List.map_cons, List.mem_cons]; constructor; (rintro (q | q); exact absurd q.symm h; exact q); exact .inr
      rw [List.find?_cons_of_neg (by simpa using h), ← ih]
      by_cases hm : n ∈ namesS es
      · rw [if_pos (h2.2 hm), if_pos hm]
        simp only [namesS, List.map_cons]
        have hb : (e.name == n) = false := by simpa using h
        rw [List.idxOf_cons, hb, cond_false, List.getD_cons_succ]
      · rw [if_neg (fun q => hm (h2.1 q)), if_neg hm]
theorem fnd_find (c : Cat) (n : Bs) : fndS c n = (match findC c n with | some e => (e, true) | none => (default, false)) := fnd_list n c.es
theorem addC_err {c d : Cat} {e : Ent} {gone : List Ent} {f : Int} (h : addC c e = (d, gone, f)) (hf : f ≠ 0) : d = ⟨[], []⟩ ∧ gone = [] := by
  unfold addC at h
  repeat' (split at h)
  all_goals (simp only [Prod.mk.injEq] at h; obtain ⟨rfl, rfl, rfl⟩ := h; first | exact ⟨rfl, rfl⟩ | exact absurd rfl hf)
theorem removeC_err {c d : Cat} {n : Bs} {f : Int} (h : removeC c n = (d, f)) (hf : f ≠ 0) : d = ⟨[], []⟩ := by
  unfold removeC at h
  repeat' (split at h)
  all_goals (simp only [Prod.mk.injEq] at h; obtain ⟨rfl, rfl⟩ := h; first | rfl | exact absurd rfl hf)
theorem Find_at {c : Cat} {s : Bs} {a : Ent} {b : Bool} (h : fndS c s = (a, b)) (h1 : c.es.length ≤ 1000000) : Spec Tryd.prog 34 [catV c, .str s] (.tup [entV a, .bool b]) := by
  have := Find_spec c s h1; rw [h] at this; exact this
theorem Remove_at {c d : Cat} {s : Bs} {k : Int} (h : removeC c s = (d, k)) : Spec Tryd.prog 26 [catV c, .str s] (.tup [catV d, .int .i64 k]) := by
  have := Remove_spec c s; rw [h] at this; exact this
set_option maxHeartbeats 8000000 in
set_option maxRecDepth 4000 in
theorem CatalogKeeps_spec (l : List OpS) (hl : ∀ o ∈ l, OpOk o) (hn : l.length ≤ 9223372036854775807) (o : OpS) (ho : OpOk o) (pr : List UInt8) (hpl : pr.length ≤ 9223372036854775807) :
    Spec Tryd.prog 9 [.sl 5 (l.map opC), opV o, .sl 1 (bytesR pr)] (.bool true) := by
  obtain ⟨C, hC⟩ : ∃ C, makeS l = C := ⟨_, rfl⟩
  have hok := okMake_make l
  rw [hC] at hok
  have hCl := validC_all hok.1
  obtain ⟨E, hE⟩ : ∃ E, entS (wordS o.which) o = E := ⟨_, rfl⟩
  obtain ⟨d, gone, f, hadd⟩ : ∃ d gone f, addC C E = (d, gone, f) := ⟨_, _, _, rfl⟩
  obtain ⟨r, g, hrem⟩ : ∃ r g, removeC C E.name = (r, g) := ⟨_, _, rfl⟩
  have hdl : d.es.length ≤ 1000000 := by
    by_cases hf : f = 0
    · subst hf; have := validC_all (addC_valid hadd); omega
    · rw [(addC_err hadd hf).1]; simp
  have hrl : r.es.length ≤ 1000000 := by
    by_cases hf : g = 0
    · subst hf; have := validC_all (removeC_valid hrem); omega
    · rw [removeC_err hrem hf]; simp
  refine spec_of tt_ok Tryd.func9 rfl (by decide) Tryd.ntmps9 (congrArg Array.toList Tryd.results9) (by simp) (by decide) rfl rfl (fun F hF => ?_)
  refine vwp_seq_k fun N hN => vreg tt_ok hF rfl ?_; simp only [go_sem, Int.reduceEq, Int.reduceNe, Int.reduceLT, Int.reduceLE, Nat.reduceEqDiff, Nat.reduceAdd, Nat.reduceMul, Nat.reduceLT, Nat.reduceLeDiff, Nat.reduceSub, reduceCtorEq, reduceIte, Int.reduceToNat, catV, entsV, grpsV, entV, entC, grpC, beq_self_eq_true, Bool.and_self, opV, opC]
  refine hN _ (VWp.keep [0,2,4] [4] ?_); simp only [go_sem, Int.reduceEq, Int.reduceNe, Int.reduceLT, Int.reduceLE, Nat.reduceEqDiff, Nat.reduceAdd, Nat.reduceMul, Nat.reduceLT, Nat.reduceLeDiff, Nat.reduceSub, reduceCtorEq, reduceIte, Int.reduceToNat, catV, entsV, grpsV, entV, entC, grpC, beq_self_eq_true, Bool.and_self, opV, opC]
  refine vwp_seq_k fun N hN => ?_
  refine vwp_seq_k fun Na hNa => vreg tt_ok hF rfl ?_; simp only [go_sem, Int.reduceEq, Int.reduceNe, Int.reduceLT, Int.reduceLE, Nat.reduceEqDiff, Nat.reduceAdd, Nat.reduceMul, Nat.reduceLT, Nat.reduceLeDiff, Nat.reduceSub, reduceCtorEq, reduceIte, Int.reduceToNat, catV, entsV, grpsV, entV, entC, grpC, beq_self_eq_true, Bool.and_self, opV, opC]
  refine .inl ⟨_, works_spec, ?_⟩; try simp only [go_sem, Int.reduceEq, Int.reduceNe, Int.reduceLT, Int.reduceLE, Nat.reduceEqDiff, Nat.reduceAdd, Nat.reduceMul, Nat.reduceLT, Nat.reduceLeDiff, Nat.reduceSub, reduceCtorEq, reduceIte, Int.reduceToNat, catV, entsV, grpsV, entV, entC, grpC, beq_self_eq_true, Bool.and_self, opV, opC]
  refine hNa _ (VWp.keep [0,2,4,24] [4] ?_); simp only [go_sem, Int.reduceEq, Int.reduceNe, Int.reduceLT, Int.reduceLE, Nat.reduceEqDiff, Nat.reduceAdd, Nat.reduceMul, Nat.reduceLT, Nat.reduceLeDiff, Nat.reduceSub, reduceCtorEq, reduceIte, Int.reduceToNat, catV, entsV, grpsV, entV, entC, grpC, beq_self_eq_true, Bool.and_self, opV, opC]
  refine vif rfl ⟨fun hf => (by cases hf), fun _ => ?_⟩
  refine vwp_skip (hN _ ?_)
  refine vwp_seq_k fun N hN => vreg tt_ok hF rfl ?_; simp only [go_sem, Int.reduceEq, Int.reduceNe, Int.reduceLT, Int.reduceLE, Nat.reduceEqDiff, Nat.reduceAdd, Nat.reduceMul, Nat.reduceLT, Nat.reduceLeDiff, Nat.reduceSub, reduceCtorEq, reduceIte, Int.reduceToNat, catV, entsV, grpsV, entV, entC, grpC, beq_self_eq_true, Bool.and_self, opV, opC]
  refine .inl ⟨_, Make_spec l hl hn, ?_⟩; try simp only [go_sem, Int.reduceEq, Int.reduceNe, Int.reduceLT, Int.reduceLE, Nat.reduceEqDiff, Nat.reduceAdd, Nat.reduceMul, Nat.reduceLT, Nat.reduceLeDiff, Nat.reduceSub, reduceCtorEq, reduceIte, Int.reduceToNat, catV, entsV, grpsV, entV, entC, grpC, beq_self_eq_true, Bool.and_self, opV, opC]
  refine .inl ⟨_, Prog_spec (makeS l) (by rw [hC]; omega) (by rw [hC]; omega), ?_⟩; try simp only [go_sem, Int.reduceEq, Int.reduceNe, Int.reduceLT, Int.reduceLE, Nat.reduceEqDiff, Nat.reduceAdd, Nat.reduceMul, Nat.reduceLT, Nat.reduceLeDiff, Nat.reduceSub, reduceCtorEq, reduceIte, Int.reduceToNat, catV, entsV, grpsV, entV, entC, grpC, beq_self_eq_true, Bool.and_self, opV, opC]
  rw [hC]
  refine hN _ (VWp.keep [2,4,7] [4,7] ?_); simp only [go_sem, Int.reduceEq, Int.reduceNe, Int.reduceLT, Int.reduceLE, Nat.reduceEqDiff, Nat.reduceAdd, Nat.reduceMul, Nat.reduceLT, Nat.reduceLeDiff, Nat.reduceSub, reduceCtorEq, reduceIte, Int.reduceToNat, catV, entsV, grpsV, entV, entC, grpC, beq_self_eq_true, Bool.and_self, opV, opC]
  refine vwp_seq_k fun N hN => vregd tt_ok mixed hF rfl (by kernel_rfl) (by kernel_rfl) ?_; simp only [go_sem, Int.reduceEq, Int.reduceNe, Int.reduceLT, Int.reduceLE, Nat.reduceEqDiff, Nat.reduceAdd, Nat.reduceMul, Nat.reduceLT, Nat.reduceLeDiff, Nat.reduceSub, reduceCtorEq, reduceIte, Int.reduceToNat, catV, entsV, grpsV, entV, entC, grpC, beq_self_eq_true, Bool.and_self, opV, opC]
  refine .inl ⟨_, Word_spec o.which ho.w, ?_⟩; try simp only [go_sem, Int.reduceEq, Int.reduceNe, Int.reduceLT, Int.reduceLE, Nat.reduceEqDiff, Nat.reduceAdd, Nat.reduceMul, Nat.reduceLT, Nat.reduceLeDiff, Nat.reduceSub, reduceCtorEq, reduceIte, Int.reduceToNat, catV, entsV, grpsV, entV, entC, grpC, beq_self_eq_true, Bool.and_self, opV, opC]
  refine .inl ⟨_, lentry_spec (wordS o.which) o ho, ?_⟩; try simp only [go_sem, Int.reduceEq, Int.reduceNe, Int.reduceLT, Int.reduceLE, Nat.reduceEqDiff, Nat.reduceAdd, Nat.reduceMul, Nat.reduceLT, Nat.reduceLeDiff, Nat.reduceSub, reduceCtorEq, reduceIte, Int.reduceToNat, catV, entsV, grpsV, entV, entC, grpC, beq_self_eq_true, Bool.and_self, opV, opC]
  rw [hE]
  refine hN _ (VWp.keep [2,7,8] [7,8] ?_); simp only [go_sem, Int.reduceEq, Int.reduceNe, Int.reduceLT, Int.reduceLE, Nat.reduceEqDiff, Nat.reduceAdd, Nat.reduceMul, Nat.reduceLT, Nat.reduceLeDiff, Nat.reduceSub, reduceCtorEq, reduceIte, Int.reduceToNat, catV, entsV, grpsV, entV, entC, grpC, beq_self_eq_true, Bool.and_self, opV, opC]
  refine vwp_seq_k fun N hN => vreg tt_ok hF rfl ?_; simp only [go_sem, Int.reduceEq, Int.reduceNe, Int.reduceLT, Int.reduceLE, Nat.reduceEqDiff, Nat.reduceAdd, Nat.reduceMul, Nat.reduceLT, Nat.reduceLeDiff, Nat.reduceSub, reduceCtorEq, reduceIte, Int.reduceToNat, catV, entsV, grpsV, entV, entC, grpC, beq_self_eq_true, Bool.and_self, opV, opC]
  refine .inl ⟨_, Add_at (c := C) (e := E) hadd, ?_⟩; try simp only [go_sem, Int.reduceEq, Int.reduceNe, Int.reduceLT, Int.reduceLE, Nat.reduceEqDiff, Nat.reduceAdd, Nat.reduceMul, Nat.reduceLT, Nat.reduceLeDiff, Nat.reduceSub, reduceCtorEq, reduceIte, Int.reduceToNat, catV, entsV, grpsV, entV, entC, grpC, beq_self_eq_true, Bool.and_self, opV, opC]
  refine hN _ (VWp.keep [2,7,8,9,10,11] [7,8,9] ?_); simp only [go_sem, Int.reduceEq, Int.reduceNe, Int.reduceLT, Int.reduceLE, Nat.reduceEqDiff, Nat.reduceAdd, Nat.reduceMul, Nat.reduceLT, Nat.reduceLeDiff, Nat.reduceSub, reduceCtorEq, reduceIte, Int.reduceToNat, catV, entsV, grpsV, entV, entC, grpC, beq_self_eq_true, Bool.and_self, opV, opC]
  refine vwp_seq_k fun N hN => vreg tt_ok hF rfl ?_; simp only [go_sem, Int.reduceEq, Int.reduceNe, Int.reduceLT, Int.reduceLE, Nat.reduceEqDiff, Nat.reduceAdd, Nat.reduceMul, Nat.reduceLT, Nat.reduceLeDiff, Nat.reduceSub, reduceCtorEq, reduceIte, Int.reduceToNat, catV, entsV, grpsV, entV, entC, grpC, beq_self_eq_true, Bool.and_self, opV, opC]
  refine .inl ⟨_, Remove_at (c := C) (s := E.name) hrem, ?_⟩; try simp only [go_sem, Int.reduceEq, Int.reduceNe, Int.reduceLT, Int.reduceLE, Nat.reduceEqDiff, Nat.reduceAdd, Nat.reduceMul, Nat.reduceLT, Nat.reduceLeDiff, Nat.reduceSub, reduceCtorEq, reduceIte, Int.reduceToNat, catV, entsV, grpsV, entV, entC, grpC, beq_self_eq_true, Bool.and_self, opV, opC]
  refine hN _ (VWp.keep [2,7,8,9,10,11,12,13] [7,8,9,12] ?_); simp only [go_sem, Int.reduceEq, Int.reduceNe, Int.reduceLT, Int.reduceLE, Nat.reduceEqDiff, Nat.reduceAdd, Nat.reduceMul, Nat.reduceLT, Nat.reduceLeDiff, Nat.reduceSub, reduceCtorEq, reduceIte, Int.reduceToNat, catV, entsV, grpsV, entV, entC, grpC, beq_self_eq_true, Bool.and_self, opV, opC]
  refine vwp_seq_k fun N hN => ?_
  refine vwp_seq_k fun Na hNa => vreg tt_ok hF rfl ?_; simp only [go_sem, Int.reduceEq, Int.reduceNe, Int.reduceLT, Int.reduceLE, Nat.reduceEqDiff, Nat.reduceAdd, Nat.reduceMul, Nat.reduceLT, Nat.reduceLeDiff, Nat.reduceSub, reduceCtorEq, reduceIte, Int.reduceToNat, catV, entsV, grpsV, entV, entC, grpC, beq_self_eq_true, Bool.and_self, opV, opC]
  refine hNa _ (VWp.keep [2,7,8,9,10,11,12,13,14] [7,8,9,12] ?_); simp only [go_sem, Int.reduceEq, Int.reduceNe, Int.reduceLT, Int.reduceLE, Nat.reduceEqDiff, Nat.reduceAdd, Nat.reduceMul, Nat.reduceLT, Nat.reduceLeDiff, Nat.reduceSub, reduceCtorEq, reduceIte, Int.reduceToNat, catV, entsV, grpsV, entV, entC, grpC, beq_self_eq_true, Bool.and_self, opV, opC]
  refine vwp_block (vloop (fun k : Nat => [(2, .sl 1 (bytesR pr)), (7, .ptr 7 0), (8, .ptr 8 0), (9, .ptr 9 0), (10, .sl 4 (gone.map entC)), (11, .int .i64 f), (12, .ptr 12 0), (13, .int .i64 g), (14, .int .i64 (k : Int))])
    (fun _ => [(7, .box 36 [.sl 4 (C.es.map entC), .sl 2 (C.gs.map grpC)]), (8, .box 50 (entC E)), (9, .box 36 [.sl 4 (d.es.map entC), .sl 2 (d.gs.map grpC)]), (12, .box 36 [.sl 4 (r.es.map entC), .sl 2 (r.gs.map grpC)])])
    (fun k => k ≤ 40 ∧ k ≤ pr.length) (fun k => 40 - k) 0 (by omega) (by simp only [go_sem, Int.reduceEq, Int.reduceNe, Int.reduceLT, Int.reduceLE, Nat.reduceEqDiff, Nat.reduceAdd, Nat.reduceMul, Nat.reduceLT, Nat.reduceLeDiff, Nat.reduceSub, reduceCtorEq, reduceIte, Int.reduceToNat, catV, entsV, grpsV, entV, entC, grpC, beq_self_eq_true, Bool.and_self, opV, opC]) ?_)
  rintro k ⟨hk, hkl⟩
  refine vwp_seq_k fun Nb hNb => ?_
  refine vmeet (fun b : Bool => [(2, .sl 1 (bytesR pr)), (7, .ptr 7 0), (8, .ptr 8 0), (9, .ptr 9 0), (10, .sl 4 (gone.map entC)), (11, .int .i64 f), (12, .ptr 12 0), (13, .int .i64 g), (14, .int .i64 (k : Int)), (54, .bool b)])
    (fun _ => [(7, .box 36 [.sl 4 (C.es.map entC), .sl 2 (C.gs.map grpC)]), (8, .box 50 (entC E)), (9, .box 36 [.sl 4 (d.es.map entC), .sl 2 (d.gs.map grpC)]), (12, .box 36 [.sl 4 (r.es.map entC), .sl 2 (r.gs.map grpC)])])
    (fun b => b = (decide (k < pr.length) && decide (k < 40))) ?_ ?_
  · by_cases hq : k < pr.length
    · have f1 : decide ((k : Int) < ((bytesR pr).length : Int)) = true := decide_eq_true (by rw [bytesR_len]; omega)
      have f2 : decide ((k : Int) < 40) = decide (k < 40) := by apply decide_eq_decide.2; omega
      refine vreg tt_ok hF rfl ?_; simp only [go_sem, Int.reduceEq, Int.reduceNe, Int.reduceLT, Int.reduceLE, Nat.reduceEqDiff, Nat.reduceAdd, Nat.reduceMul, Nat.reduceLT, Nat.reduceLeDiff, Nat.reduceSub, reduceCtorEq, reduceIte, Int.reduceToNat, catV, entsV, grpsV, entV, entC, grpC, beq_self_eq_true, Bool.and_self, opV, opC, f1, f2]
      exact ⟨_, rfl, by simp [hq]⟩
    · have f1 : decide ((k : Int) < ((bytesR pr).length : Int)) = false := decide_eq_false (by rw [bytesR_len]; omega)
      refine vreg tt_ok hF rfl ?_; simp only [go_sem, Int.reduceEq, Int.reduceNe, Int.reduceLT, Int.reduceLE, Nat.reduceEqDiff, Nat.reduceAdd, Nat.reduceMul, Nat.reduceLT, Nat.reduceLeDiff, Nat.reduceSub, reduceCtorEq, reduceIte, Int.reduceToNat, catV, entsV, grpsV, entV, entC, grpC, beq_self_eq_true, Bool.and_self, opV, opC, f1]
      exact ⟨_, rfl, by simp [hq]⟩
  intro b hb
  refine vif rfl ⟨fun ht => ?_, fun hf => ?_⟩
  · rw [ht] at hb
    have hb := Bool.and_eq_true_iff.1 hb.symm
    have hq : k < pr.length := of_decide_eq_true hb.1
    have hq2 : k < 40 := of_decide_eq_true hb.2
    obtain ⟨x, hx⟩ : ∃ x, pr[k]? = some x := ⟨_, List.getElem?_eq_getElem hq⟩
    have hrow : (bytesR pr).getD k [] = [.int .u8 (x.toNat : Int)] := getD_map pr _ k x [] hx
    have hx8 : x.toNat < 256 := x.toNat_lt
    obtain ⟨nm, hnm⟩ : ∃ nm, wordS x.toNat = nm := ⟨_, rfl⟩
    obtain ⟨w1, w2, hw⟩ : ∃ a b, fndS C nm = (a, b) := ⟨_, _, rfl⟩
    obtain ⟨n1, n2, hnw⟩ : ∃ a b, fndS d nm = (a, b) := ⟨_, _, rfl⟩
    obtain ⟨l1, l2, hlf⟩ : ∃ a b, fndS r nm = (a, b) := ⟨_, _, rfl⟩
    refine vwp_skip (hNb _ ?_)
    refine vwp_seq_k fun Nd hNd => ?_
    refine vwp_block ?_
    refine vwp_seq_k fun Ne hNe => vreg tt_ok hF rfl ?_; simp only [go_sem, Int.reduceEq, Int.reduceNe, Int.reduceLT, Int.reduceLE, Nat.reduceEqDiff, Nat.reduceAdd, Nat.reduceMul, Nat.reduceLT, Nat.reduceLeDiff, Nat.reduceSub, reduceCtorEq, reduceIte, Int.reduceToNat, catV, entsV, grpsV, entV, entC, grpC, beq_self_eq_true, Bool.and_self, opV, opC]
    simp only [hrow, go_sem, Int.reduceEq, Int.reduceNe, Int.reduceLT, Int.reduceLE, Nat.reduceEqDiff, Nat.reduceAdd, Nat.reduceMul, Nat.reduceLT, Nat.reduceLeDiff, Nat.reduceSub, reduceCtorEq, reduceIte, Int.reduceToNat, catV, entsV, grpsV, entV, entC, grpC, beq_self_eq_true, Bool.and_self, opV, opC]
    refine ⟨⟨by omega, by rw [bytesR_len]; omega⟩, ?_⟩
    refine .inl ⟨_, Word_spec x.toNat hx8, ?_⟩; try simp only [go_sem, Int.reduceEq, Int.reduceNe, Int.reduceLT, Int.reduceLE, Nat.reduceEqDiff, Nat.reduceAdd, Nat.reduceMul, Nat.reduceLT, Nat.reduceLeDiff, Nat.reduceSub, reduceCtorEq, reduceIte, Int.reduceToNat, catV, entsV, grpsV, entV, entC, grpC, beq_self_eq_true, Bool.and_self, opV, opC]
    rw [hnm]
    refine hNe _ (VWp.keep [2,7,8,9,10,11,12,13,14,15] [7,8,9,12] ?_); simp only [go_sem, Int.reduceEq, Int.reduceNe, Int.reduceLT, Int.reduceLE, Nat.reduceEqDiff, Nat.reduceAdd, Nat.reduceMul, Nat.reduceLT, Nat.reduceLeDiff, Nat.reduceSub, reduceCtorEq, reduceIte, Int.reduceToNat, catV, entsV, grpsV, entV, entC, grpC, beq_self_eq_true, Bool.and_self, opV, opC]
    refine vwp_seq_k fun Ne hNe => vreg tt_ok hF rfl ?_; simp only [go_sem, Int.reduceEq, Int.reduceNe, Int.reduceLT, Int.reduceLE, Nat.reduceEqDiff, Nat.reduceAdd, Nat.reduceMul, Nat.reduceLT, Nat.reduceLeDiff, Nat.reduceSub, reduceCtorEq, reduceIte, Int.reduceToNat, catV, entsV, grpsV, entV, entC, grpC, beq_self_eq_true, Bool.and_self, opV, opC]
    refine .inl ⟨_, Find_at hw (by omega), ?_⟩; try simp only [go_sem, Int.reduceEq, Int.reduceNe, Int.reduceLT, Int.reduceLE, Nat.reduceEqDiff, Nat.reduceAdd, Nat.reduceMul, Nat.reduceLT, Nat.reduceLeDiff, Nat.reduceSub, reduceCtorEq, reduceIte, Int.reduceToNat, catV, entsV, grpsV, entV, entC, grpC, beq_self_eq_true, Bool.and_self, opV, opC]
    refine hNe _ (VWp.keep [2,7,8,9,10,11,12,13,14,15,16,17] [7,8,9,12,16] ?_); simp only [go_sem, Int.reduceEq, Int.reduceNe, Int.reduceLT, Int.reduceLE, Nat.reduceEqDiff, Nat.reduceAdd, Nat.reduceMul, Nat.reduceLT, Nat.reduceLeDiff, Nat.reduceSub, reduceCtorEq, reduceIte, Int.reduceToNat, catV, entsV, grpsV, entV, entC, grpC, beq_self_eq_true, Bool.and_self, opV, opC]
    refine vwp_seq_k fun Ne hNe => vreg tt_ok hF rfl ?_; simp only [go_sem, Int.reduceEq, Int.reduceNe, Int.reduceLT, Int.reduceLE, Nat.reduceEqDiff, Nat.reduceAdd, Nat.reduceMul, Nat.reduceLT, Nat.reduceLeDiff, Nat.reduceSub, reduceCtorEq, reduceIte, Int.reduceToNat, catV, entsV, grpsV, entV, entC, grpC, beq_self_eq_true, Bool.and_self, opV, opC]
    refine .inl ⟨_, Find_at hnw hdl, ?_⟩; try simp only [go_sem, Int.reduceEq, Int.reduceNe, Int.reduceLT, Int.reduceLE, Nat.reduceEqDiff, Nat.reduceAdd, Nat.reduceMul, Nat.reduceLT, Nat.reduceLeDiff, Nat.reduceSub, reduceCtorEq, reduceIte, Int.reduceToNat, catV, entsV, grpsV, entV, entC, grpC, beq_self_eq_true, Bool.and_self, opV, opC]
    refine hNe _ (VWp.keep [2,7,8,9,10,11,12,13,14,15,16,17,18,19] [7,8,9,12,16,18] ?_); simp only [go_sem, Int.reduceEq, Int.reduceNe, Int.reduceLT, Int.reduceLE, Nat.reduceEqDiff, Nat.reduceAdd, Nat.reduceMul, Nat.reduceLT, Nat.reduceLeDiff, Nat.reduceSub, reduceCtorEq, reduceIte, Int.reduceToNat, catV, entsV, grpsV, entV, entC, grpC, beq_self_eq_true, Bool.and_self, opV, opC]
    refine vwp_seq_k fun Ne hNe => vreg tt_ok hF rfl ?_; simp only [go_sem, Int.reduceEq, Int.reduceNe, Int.reduceLT, Int.reduceLE, Nat.reduceEqDiff, Nat.reduceAdd, Nat.reduceMul, Nat.reduceLT, Nat.reduceLeDiff, Nat.reduceSub, reduceCtorEq, reduceIte, Int.reduceToNat, catV, entsV, grpsV, entV, entC, grpC, beq_self_eq_true, Bool.and_self, opV, opC]
    refine .inl ⟨_, Find_at hlf hrl, ?_⟩; try simp only [go_sem, Int.reduceEq, Int.reduceNe, Int.reduceLT, Int.reduceLE, Nat.reduceEqDiff, Nat.reduceAdd, Nat.reduceMul, Nat.reduceLT, Nat.reduceLeDiff, Nat.reduceSub, reduceCtorEq, reduceIte, Int.reduceToNat, catV, entsV, grpsV, entV, entC, grpC, beq_self_eq_true, Bool.and_self, opV, opC]
    refine hNe _ (VWp.keep [2,7,8,9,10,11,12,13,14,15,16,17,18,19,20,21] [7,8,9,12,16,18,20] ?_); simp only [go_sem, Int.reduceEq, Int.reduceNe, Int.reduceLT, Int.reduceLE, Nat.reduceEqDiff, Nat.reduceAdd, Nat.reduceMul, Nat.reduceLT, Nat.reduceLeDiff, Nat.reduceSub, reduceCtorEq, reduceIte, Int.reduceToNat, catV, entsV, grpsV, entV, entC, grpC, beq_self_eq_true, Bool.and_self, opV, opC]
    refine vmeet (fun _ : Unit => [(2, .sl 1 (bytesR pr)), (7, .ptr 7 0), (8, .ptr 8 0), (9, .ptr 9 0), (10, .sl 4 (gone.map entC)), (11, .int .i64 f), (12, .ptr 12 0), (13, .int .i64 g), (14, .int .i64 (k : Int)), (15, .str nm), (16, .ptr 16 0), (17, .bool w2), (20, .ptr 20 0), (21, .bool l2)])
      (fun _ => [(7, .box 36 [.sl 4 (C.es.map entC), .sl 2 (C.gs.map grpC)]), (8, .box 50 (entC E)), (9, .box 36 [.sl 4 (d.es.map entC), .sl 2 (d.gs.map grpC)]), (12, .box 36 [.sl 4 (r.es.map entC), .sl 2 (r.gs.map grpC)]), (16, .box 50 (entC w1)), (20, .box 50 (entC l1))])
      (fun _ => True) ?_ ?_
    · refine vwp_seq_k fun Ne hNe => vreg tt_ok hF rfl ?_; simp only [go_sem, Int.reduceEq, Int.reduceNe, Int.reduceLT, Int.reduceLE, Nat.reduceEqDiff, Nat.reduceAdd, Nat.reduceMul, Nat.reduceLT, Nat.reduceLeDiff, Nat.reduceSub, reduceCtorEq, reduceIte, Int.reduceToNat, catV, entsV, grpsV, entV, entC, grpC, beq_self_eq_true, Bool.and_self, opV, opC]
      refine hNe _ (VWp.keep [2,7,8,9,10,11,12,13,14,15,16,17,18,19,20,21,81] [7,8,9,12,16,18,20] ?_); simp only [go_sem, Int.reduceEq, Int.reduceNe, Int.reduceLT, Int.reduceLE, Nat.reduceEqDiff, Nat.reduceAdd, Nat.reduceMul, Nat.reduceLT, Nat.reduceLeDiff, Nat.reduceSub, reduceCtorEq, reduceIte, Int.reduceToNat, catV, entsV, grpsV, entV, entC, grpC, beq_self_eq_true, Bool.and_self, opV, opC]
      refine vif rfl ⟨fun ht => ?_, fun hf => ?_⟩
      · have hf0 : f = 0 := of_decide_eq_true ht
        subst hf0
        have hfa := find_addC hadd nm
        rw [fnd_find] at hw hnw
        have hgone : gone.length ≤ 1 := by
          obtain ⟨_, _, _, _, _, hc⟩ := addC_ok hadd
          rcases hc with ⟨rfl, _⟩ | ⟨_, _, _, _, _, _, rfl, _⟩ <;> simp
        -- the flag out
        refine vmeet (fun b : Bool => [(2, .sl 1 (bytesR pr)), (7, .ptr 7 0), (8, .ptr 8 0), (9, .ptr 9 0), (10, .sl 4 (gone.map entC)), (11, .int .i64 0), (12, .ptr 12 0), (13, .int .i64 g), (14, .int .i64 (k : Int)), (15, .str nm), (16, .ptr 16 0), (17, .bool w2), (18, .ptr 18 0), (19, .bool n2), (20, .ptr 20 0), (21, .bool l2), (22, .bool b)])
          (fun _ => [(7, .box 36 [.sl 4 (C.es.map entC), .sl 2 (C.gs.map grpC)]), (8, .box 50 (entC E)), (9, .box 36 [.sl 4 (d.es.map entC), .sl 2 (d.gs.map grpC)]), (12, .box 36 [.sl 4 (r.es.map entC), .sl 2 (r.gs.map grpC)]), (16, .box 50 (entC w1)), (18, .box 50 (entC n1)), (20, .box 50 (entC l1))])
          (fun b => b = decide (nm ∈ namesS gone)) ?_ ?_
        · rcases gone with _ | ⟨g0, _ | ⟨g1, gs⟩⟩
          · refine vreg tt_ok hF rfl ?_; simp only [go_sem, Int.reduceEq, Int.reduceNe, Int.reduceLT, Int.reduceLE, Nat.reduceEqDiff, Nat.reduceAdd, Nat.reduceMul, Nat.reduceLT, Nat.reduceLeDiff, Nat.reduceSub, reduceCtorEq, reduceIte, Int.reduceToNat, catV, entsV, grpsV, entV, entC, grpC, beq_self_eq_true, Bool.and_self, opV, opC]
            exact ⟨_, by simp [namesS], rfl⟩
          · refine vreg tt_ok hF rfl ?_; simp only [go_sem, Int.reduceEq, Int.reduceNe, Int.reduceLT, Int.reduceLE, Nat.reduceEqDiff, Nat.reduceAdd, Nat.reduceMul, Nat.reduceLT, Nat.reduceLeDiff, Nat.reduceSub, reduceCtorEq, reduceIte, Int.reduceToNat, catV, entsV, grpsV, entV, entC, grpC, beq_self_eq_true, Bool.and_self, opV, opC]
            exact ⟨_, by simp [namesS, eq_comm], rfl⟩
          · simp at hgone
        intro b hbo
        have hbo : b = decide (nm ∈ namesS gone) := hbo
        refine vmeet (fun _ : Unit => [(2, .sl 1 (bytesR pr)), (7, .ptr 7 0), (8, .ptr 8 0), (9, .ptr 9 0), (10, .sl 4 (gone.map entC)), (11, .int .i64 0), (12, .ptr 12 0), (13, .int .i64 g), (14, .int .i64 (k : Int)), (15, .str nm), (16, .ptr 16 0), (17, .bool w2), (20, .ptr 20 0), (21, .bool l2), (137, .bool false)])
          (fun _ => [(7, .box 36 [.sl 4 (C.es.map entC), .sl 2 (C.gs.map grpC)]), (8, .box 50 (entC E)), (9, .box 36 [.sl 4 (d.es.map entC), .sl 2 (d.gs.map grpC)]), (12, .box 36 [.sl 4 (r.es.map entC), .sl 2 (r.gs.map grpC)]), (16, .box 50 (entC w1)), (20, .box 50 (entC l1))])
          (fun _ => True) ?_ ?_
        · by_cases he : nm = E.name
          · rw [if_pos he] at hfa
            rw [hfa] at hnw
            injection hnw with e1 e2; subst e1; subst e2
            have d1 : decide (nm = E.name) = true := decide_eq_true he
            cases b <;> (refine vreg tt_ok hF rfl ?_; simp only [go_sem, Int.reduceEq, Int.reduceNe, Int.reduceLT, Int.reduceLE, Nat.reduceEqDiff, Nat.reduceAdd, Nat.reduceMul, Nat.reduceLT, Nat.reduceLeDiff, Nat.reduceSub, reduceCtorEq, reduceIte, Int.reduceToNat, catV, entsV, grpsV, entV, entC, grpC, beq_self_eq_true, Bool.and_self, opV, opC, d1]; exact ⟨(), by simp⟩)
          · rw [if_neg he] at hfa
            have d1 : decide (nm = E.name) = false := decide_eq_false he
            by_cases hg : nm ∈ namesS gone
            · rw [if_pos hg] at hfa
              rw [hfa] at hnw
              injection hnw with e1 e2; subst e1; subst e2
              rw [decide_eq_true hg] at hbo; subst hbo
              refine vreg tt_ok hF rfl ?_; simp only [go_sem, Int.reduceEq, Int.reduceNe, Int.reduceLT, Int.reduceLE, Nat.reduceEqDiff, Nat.reduceAdd, Nat.reduceMul, Nat.reduceLT, Nat.reduceLeDiff, Nat.reduceSub, reduceCtorEq, reduceIte, Int.reduceToNat, catV, entsV, grpsV, entV, entC, grpC, beq_self_eq_true, Bool.and_self, opV, opC, d1]; exact ⟨(), by simp⟩
            · rw [if_neg hg] at hfa
              rw [hfa, hw] at hnw
              injection hnw with e1 e2; subst e1; subst e2
              rw [decide_eq_false hg] at hbo; subst hbo
              refine vreg tt_ok hF rfl ?_; simp only [go_sem, Int.reduceEq, Int.reduceNe, Int.reduceLT, Int.reduceLE, Nat.reduceEqDiff, Nat.reduceAdd, Nat.reduceMul, Nat.reduceLT, Nat.reduceLeDiff, Nat.reduceSub, reduceCtorEq, reduceIte, Int.reduceToNat, catV, entsV, grpsV, entV, entC, grpC, beq_self_eq_true, Bool.and_self, opV, opC, d1]; exact ⟨(), by simp⟩
        intro _ _
        refine vif rfl ⟨fun hf => (by cases hf), fun _ => ?_⟩
        refine vwp_skip ?_
        simp only [go_sem, Int.reduceEq, Int.reduceNe, Int.reduceLT, Int.reduceLE, Nat.reduceEqDiff, Nat.reduceAdd, Nat.reduceMul, Nat.reduceLT, Nat.reduceLeDiff, Nat.reduceSub, reduceCtorEq, reduceIte, Int.reduceToNat, catV, entsV, grpsV, entV, entC, grpC, beq_self_eq_true, Bool.and_self, opV, opC]
        exact ⟨(), by simp⟩
      · refine vwp_skip ?_
        simp only [go_sem, Int.reduceEq, Int.reduceNe, Int.reduceLT, Int.reduceLE, Nat.reduceEqDiff, Nat.reduceAdd, Nat.reduceMul, Nat.reduceLT, Nat.reduceLeDiff, Nat.reduceSub, reduceCtorEq, reduceIte, Int.reduceToNat, catV, entsV, grpsV, entV, entC, grpC, beq_self_eq_true, Bool.and_self, opV, opC]
        exact ⟨(), by simp⟩
    intro _ _
    refine vmeet (fun _ : Unit => [(2, .sl 1 (bytesR pr)), (7, .ptr 7 0), (8, .ptr 8 0), (9, .ptr 9 0), (10, .sl 4 (gone.map entC)), (11, .int .i64 f), (12, .ptr 12 0), (13, .int .i64 g), (14, .int .i64 (k : Int)), (164, .bool false)])
      (fun _ => [(7, .box 36 [.sl 4 (C.es.map entC), .sl 2 (C.gs.map grpC)]), (8, .box 50 (entC E)), (9, .box 36 [.sl 4 (d.es.map entC), .sl 2 (d.gs.map grpC)]), (12, .box 36 [.sl 4 (r.es.map entC), .sl 2 (r.gs.map grpC)])])
      (fun _ => True) ?_ ?_
    · by_cases hg0 : g = 0
      · subst hg0
        have hfr := find_removeC hrem nm
        rw [fnd_find] at hw hlf
        by_cases he : nm = E.name
        · rw [if_pos he] at hfr
          rw [hfr] at hlf
          injection hlf with e1 e2; subst e1; subst e2
          have d1 : decide (nm = E.name) = true := decide_eq_true he
          refine vreg tt_ok hF rfl ?_; simp only [go_sem, Int.reduceEq, Int.reduceNe, Int.reduceLT, Int.reduceLE, Nat.reduceEqDiff, Nat.reduceAdd, Nat.reduceMul, Nat.reduceLT, Nat.reduceLeDiff, Nat.reduceSub, reduceCtorEq, reduceIte, Int.reduceToNat, catV, entsV, grpsV, entV, entC, grpC, beq_self_eq_true, Bool.and_self, opV, opC, d1]; exact ⟨(), by simp⟩
        · rw [if_neg he] at hfr
          rw [hfr, hw] at hlf
          injection hlf with e1 e2; subst e1; subst e2
          have d1 : decide (nm = E.name) = false := decide_eq_false he
          refine vreg tt_ok hF rfl ?_; simp only [go_sem, Int.reduceEq, Int.reduceNe, Int.reduceLT, Int.reduceLE, Nat.reduceEqDiff, Nat.reduceAdd, Nat.reduceMul, Nat.reduceLT, Nat.reduceLeDiff, Nat.reduceSub, reduceCtorEq, reduceIte, Int.reduceToNat, catV, entsV, grpsV, entV, entC, grpC, beq_self_eq_true, Bool.and_self, opV, opC, d1]; exact ⟨(), by simp⟩
      · have d1 : decide (g = 0) = false := decide_eq_false hg0
        refine vreg tt_ok hF rfl ?_; simp only [go_sem, Int.reduceEq, Int.reduceNe, Int.reduceLT, Int.reduceLE, Nat.reduceEqDiff, Nat.reduceAdd, Nat.reduceMul, Nat.reduceLT, Nat.reduceLeDiff, Nat.reduceSub, reduceCtorEq, reduceIte, Int.reduceToNat, catV, entsV, grpsV, entV, entC, grpC, beq_self_eq_true, Bool.and_self, opV, opC, d1]; exact ⟨(), by simp⟩
    intro _ _
    refine vif rfl ⟨fun hf => (by cases hf), fun _ => ?_⟩
    refine vwp_skip ?_
    simp only [go_sem, Int.reduceEq, Int.reduceNe, Int.reduceLT, Int.reduceLE, Nat.reduceEqDiff, Nat.reduceAdd, Nat.reduceMul, Nat.reduceLT, Nat.reduceLeDiff, Nat.reduceSub, reduceCtorEq, reduceIte, Int.reduceToNat, catV, entsV, grpsV, entV, entC, grpC, beq_self_eq_true, Bool.and_self, opV, opC]
    refine hNd _ (VWp.keep [2,7,8,9,10,11,12,13,14] [7,8,9,12] ?_); simp only [go_sem, Int.reduceEq, Int.reduceNe, Int.reduceLT, Int.reduceLE, Nat.reduceEqDiff, Nat.reduceAdd, Nat.reduceMul, Nat.reduceLT, Nat.reduceLeDiff, Nat.reduceSub, reduceCtorEq, reduceIte, Int.reduceToNat, catV, entsV, grpsV, entV, entC, grpC, beq_self_eq_true, Bool.and_self, opV, opC]
    refine vreg tt_ok hF rfl ?_; simp only [go_sem, Int.reduceEq, Int.reduceNe, Int.reduceLT, Int.reduceLE, Nat.reduceEqDiff, Nat.reduceAdd, Nat.reduceMul, Nat.reduceLT, Nat.reduceLeDiff, Nat.reduceSub, reduceCtorEq, reduceIte, Int.reduceToNat, catV, entsV, grpsV, entV, entC, grpC, beq_self_eq_true, Bool.and_self, opV, opC]
    rw [wrap_i64 (by omega) (by omega)]
    exact ⟨k + 1, ⟨by omega, by omega⟩, by omega, by simp⟩
  · refine vwp_exit ?_
    simp only [go_sem, Int.reduceEq, Int.reduceNe, Int.reduceLT, Int.reduceLE, Nat.reduceEqDiff, Nat.reduceAdd, Nat.reduceMul, Nat.reduceLT, Nat.reduceLeDiff, Nat.reduceSub, reduceCtorEq, reduceIte, Int.reduceToNat, catV, entsV, grpsV, entV, entC, grpC, beq_self_eq_true, Bool.and_self, opV, opC]
    refine hN _ (VWp.keep [9,11,12,13] [9,12] ?_); simp only [go_sem, Int.reduceEq, Int.reduceNe, Int.reduceLT, Int.reduceLE, Nat.reduceEqDiff, Nat.reduceAdd, Nat.reduceMul, Nat.reduceLT, Nat.reduceLeDiff, Nat.reduceSub, reduceCtorEq, reduceIte, Int.reduceToNat, catV, entsV, grpsV, entV, entC, grpC, beq_self_eq_true, Bool.and_self, opV, opC]
    refine vwp_seq ?_
    by_cases hf0 : f = 0 <;> by_cases hg0 : g = 0
    · subst hf0; subst hg0
      refine vreg tt_ok hF rfl ?_; simp only [go_sem, Int.reduceEq, Int.reduceNe, Int.reduceLT, Int.reduceLE, Nat.reduceEqDiff, Nat.reduceAdd, Nat.reduceMul, Nat.reduceLT, Nat.reduceLeDiff, Nat.reduceSub, reduceCtorEq, reduceIte, Int.reduceToNat, catV, entsV, grpsV, entV, entC, grpC, beq_self_eq_true, Bool.and_self, opV, opC]
      refine .inl ⟨_, Check_at (c := d) (k := 0) (by rw [addC_valid hadd]; rfl), ?_⟩; try simp only [go_sem, Int.reduceEq, Int.reduceNe, Int.reduceLT, Int.reduceLE, Nat.reduceEqDiff, Nat.reduceAdd, Nat.reduceMul, Nat.reduceLT, Nat.reduceLeDiff, Nat.reduceSub, reduceCtorEq, reduceIte, Int.reduceToNat, catV, entsV, grpsV, entV, entC, grpC, beq_self_eq_true, Bool.and_self, opV, opC]
      refine .inl ⟨_, Check_at (c := r) (k := 0) (by rw [removeC_valid hrem]; rfl), ?_⟩; try simp only [go_sem, Int.reduceEq, Int.reduceNe, Int.reduceLT, Int.reduceLE, Nat.reduceEqDiff, Nat.reduceAdd, Nat.reduceMul, Nat.reduceLT, Nat.reduceLeDiff, Nat.reduceSub, reduceCtorEq, reduceIte, Int.reduceToNat, catV, entsV, grpsV, entV, entC, grpC, beq_self_eq_true, Bool.and_self, opV, opC]
      refine vwp_ret ?_
      simp only [go_sem, Int.reduceEq, Int.reduceNe, Int.reduceLT, Int.reduceLE, Nat.reduceEqDiff, Nat.reduceAdd, Nat.reduceMul, Nat.reduceLT, Nat.reduceLeDiff, Nat.reduceSub, reduceCtorEq, reduceIte, Int.reduceToNat, catV, entsV, grpsV, entV, entC, grpC, beq_self_eq_true, Bool.and_self, opV, opC]
      exact LeV.refl _
    · subst hf0
      have d2 : decide (g = 0) = false := decide_eq_false hg0
      refine vreg tt_ok hF rfl ?_; simp only [go_sem, Int.reduceEq, Int.reduceNe, Int.reduceLT, Int.reduceLE, Nat.reduceEqDiff, Nat.reduceAdd, Nat.reduceMul, Nat.reduceLT, Nat.reduceLeDiff, Nat.reduceSub, reduceCtorEq, reduceIte, Int.reduceToNat, catV, entsV, grpsV, entV, entC, grpC, beq_self_eq_true, Bool.and_self, opV, opC, d2]
      refine .inl ⟨_, Check_at (c := d) (k := 0) (by rw [addC_valid hadd]; rfl), ?_⟩; try simp only [go_sem, Int.reduceEq, Int.reduceNe, Int.reduceLT, Int.reduceLE, Nat.reduceEqDiff, Nat.reduceAdd, Nat.reduceMul, Nat.reduceLT, Nat.reduceLeDiff, Nat.reduceSub, reduceCtorEq, reduceIte, Int.reduceToNat, catV, entsV, grpsV, entV, entC, grpC, beq_self_eq_true, Bool.and_self, opV, opC]
      simp only [go_sem, Int.reduceEq, Int.reduceNe, Int.reduceLT, Int.reduceLE, Nat.reduceEqDiff, Nat.reduceAdd, Nat.reduceMul, Nat.reduceLT, Nat.reduceLeDiff, Nat.reduceSub, reduceCtorEq, reduceIte, Int.reduceToNat, catV, entsV, grpsV, entV, entC, grpC, beq_self_eq_true, Bool.and_self, opV, opC, d2]
      refine vwp_ret ?_
      simp only [go_sem, Int.reduceEq, Int.reduceNe, Int.reduceLT, Int.reduceLE, Nat.reduceEqDiff, Nat.reduceAdd, Nat.reduceMul, Nat.reduceLT, Nat.reduceLeDiff, Nat.reduceSub, reduceCtorEq, reduceIte, Int.reduceToNat, catV, entsV, grpsV, entV, entC, grpC, beq_self_eq_true, Bool.and_self, opV, opC]
      exact LeV.refl _
    · subst hg0
      have d1 : decide (f = 0) = false := decide_eq_false hf0
      refine vreg tt_ok hF rfl ?_; simp only [go_sem, Int.reduceEq, Int.reduceNe, Int.reduceLT, Int.reduceLE, Nat.reduceEqDiff, Nat.reduceAdd, Nat.reduceMul, Nat.reduceLT, Nat.reduceLeDiff, Nat.reduceSub, reduceCtorEq, reduceIte, Int.reduceToNat, catV, entsV, grpsV, entV, entC, grpC, beq_self_eq_true, Bool.and_self, opV, opC, d1]
      refine .inl ⟨_, Check_at (c := r) (k := 0) (by rw [removeC_valid hrem]; rfl), ?_⟩; try simp only [go_sem, Int.reduceEq, Int.reduceNe, Int.reduceLT, Int.reduceLE, Nat.reduceEqDiff, Nat.reduceAdd, Nat.reduceMul, Nat.reduceLT, Nat.reduceLeDiff, Nat.reduceSub, reduceCtorEq, reduceIte, Int.reduceToNat, catV, entsV, grpsV, entV, entC, grpC, beq_self_eq_true, Bool.and_self, opV, opC]
      refine vwp_ret ?_
      simp only [go_sem, Int.reduceEq, Int.reduceNe, Int.reduceLT, Int.reduceLE, Nat.reduceEqDiff, Nat.reduceAdd, Nat.reduceMul, Nat.reduceLT, Nat.reduceLeDiff, Nat.reduceSub, reduceCtorEq, reduceIte, Int.reduceToNat, catV, entsV, grpsV, entV, entC, grpC, beq_self_eq_true, Bool.and_self, opV, opC]
      exact LeV.refl _
    · have d1 : decide (f = 0) = false := decide_eq_false hf0
      have d2 : decide (g = 0) = false := decide_eq_false hg0
      refine vreg tt_ok hF rfl ?_; simp only [go_sem, Int.reduceEq, Int.reduceNe, Int.reduceLT, Int.reduceLE, Nat.reduceEqDiff, Nat.reduceAdd, Nat.reduceMul, Nat.reduceLT, Nat.reduceLeDiff, Nat.reduceSub, reduceCtorEq, reduceIte, Int.reduceToNat, catV, entsV, grpsV, entV, entC, grpC, beq_self_eq_true, Bool.and_self, opV, opC, d1, d2]
      refine vwp_ret ?_
      simp only [go_sem, Int.reduceEq, Int.reduceNe, Int.reduceLT, Int.reduceLE, Nat.reduceEqDiff, Nat.reduceAdd, Nat.reduceMul, Nat.reduceLT, Nat.reduceLeDiff, Nat.reduceSub, reduceCtorEq, reduceIte, Int.reduceToNat, catV, entsV, grpsV, entV, entC, grpC, beq_self_eq_true, Bool.and_self, opV, opC]
      exact LeV.refl _
theorem CatalogKeeps_in (w : World) (v u : Value) (l : List OpS) (hl : ∀ o ∈ l, OpOk o) (hn : l.length ≤ 9223372036854775807) (hv : Rep (S0 (fun _ _ => False) w) (.sl 5 (l.map opC)) v) (o : OpS) (ho : OpOk o) (x : Value) (hx : Rep (S0 (fun _ _ => False) w) (opV o) x)
    (pr : List UInt8) (hp : pr.length ≤ 9223372036854775807) (hu : Rep (S0 (fun _ _ => False) w) (.sl 1 (bytesR pr)) u) :
    Calls Tryd.prog 9 #[v, x, u] w fun e w' => e = .returned (.bool true) ∧ Chg [] w w' :=
  spec_true (CatalogKeeps_spec l hl hn o ho pr hp) (vs := [v, x, u]) w ⟨_, _, rfl, hv, _, _, rfl, hx, _, _, rfl, hu, rfl⟩
end Go.Proofs.YtldkmclfhjcicaaDoor
