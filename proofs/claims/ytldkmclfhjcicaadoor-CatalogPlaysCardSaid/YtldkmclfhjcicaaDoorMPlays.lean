import Derived.Outline
import Derived.Test.YtldkmclfhjcicaaDoorWI
/- CatalogPlays. -/
-- SIMP: beq_self_eq_true, Bool.and_self, opV, opC
namespace Go.Proofs.YtldkmclfhjcicaaDoor
open Go.RowKit
set_option linter.unusedVariables false
set_option linter.unusedSimpArgs false
theorem genName_len (b : Bs) (n : Nat) : (genName b n).length = b.length + 9 := by unfold genName dig4; simp
theorem resolve_len {c : Cat} {s t : Bs} {rel f : Int} (h : resolveC c s rel = (t, f)) (hs : s.length ≤ 999) : t.length ≤ 1008 := by
  unfold resolveC at h
  split at h
  · injection h with h _; subst h; simp
  rename_i hv
  have hv : validC c = true := by simpa using hv
  split at h
  · injection h with h _; subst h; simp
  split at h
  · split at h
    · injection h with h _; subst h; simp
    · injection h with h _; subst h; rw [genName_len]; omega
  · split at h
    · injection h with h _; subst h; simp
    · injection h with h _; subst h
      rename_i hr
      have hl : (((gensS c.es s).length : Int) - 1 + rel).toNat < (gensS c.es s).length := by omega
      rw [List.getD_eq_getElem?_getD, List.getElem?_eq_getElem hl, Option.getD_some]
      have hm : (gensS c.es s)[(((gensS c.es s).length : Int) - 1 + rel).toNat] ∈ gensS c.es s := List.getElem_mem _
      have hm2 : (gensS c.es s)[(((gensS c.es s).length : Int) - 1 + rel).toNat] ∈ c.es := by unfold gensS at hm; exact (List.mem_filter.1 hm).1
      obtain ⟨_, _, v3, _⟩ := validC_all hv
      have := (ent_b (List.all_eq_true.1 v3 _ hm2)).1
      omega
theorem rem5 (n : Nat) : IntKind.i64.wrap (0 - IntKind.i64.wrap ((n : Int).tmod 5)) = -((n % 5 : Nat) : Int) := by
  rw [tmod_pos (by omega), wrap_i64 (n := (n : Int) % 5) (by omega) (by omega), wrap_i64 (by omega) (by omega)]; omega
theorem kind3 (n : Nat) : decide ((n : Int).tmod 4 = 3) = decide (n % 4 = 3) := by
  rw [tmod_pos (by omega)]; apply decide_eq_decide.2; omega
set_option maxHeartbeats 8000000 in
set_option maxRecDepth 4000 in
theorem CatalogPlays_spec (l : List OpS) (hl : ∀ o ∈ l, OpOk o) (hn : l.length ≤ 9223372036854775807) : Spec Tryd.prog 8 [.sl 5 (l.map opC)] (.bool true) := by
  refine spec_of tt_ok Tryd.func8 rfl (by decide) Tryd.ntmps8 (congrArg Array.toList Tryd.results8) (by simp) (by decide) rfl rfl (fun F hF => ?_)
  refine vwp_seq_k fun Na hNa => vreg tt_ok hF rfl ?_; simp only [go_sem, Int.reduceEq, Int.reduceNe, Int.reduceLT, Int.reduceLE, Nat.reduceEqDiff, Nat.reduceAdd, Nat.reduceMul, Nat.reduceLT, Nat.reduceLeDiff, Nat.reduceSub, reduceCtorEq, reduceIte, Int.reduceToNat, beq_self_eq_true, Bool.and_self, opV, opC]
  refine hNa _ (VWp.keepR [0] [] tt_ok hF rfl fun Nb hNb => ?_); simp only [go_sem, Int.reduceEq, Int.reduceNe, Int.reduceLT, Int.reduceLE, Nat.reduceEqDiff, Nat.reduceAdd, Nat.reduceMul, Nat.reduceLT, Nat.reduceLeDiff, Nat.reduceSub, reduceCtorEq, reduceIte, Int.reduceToNat, beq_self_eq_true, Bool.and_self, opV, opC]
  refine hNb _ (VWp.leB 3 43 [.nil, .nil] [.sl 4 [], .sl 2 []] rfl ⟨LeV.nil 4, LeV.nil 2, trivial⟩ rfl ?_)
  refine VWp.keep [0,3] [3] ?_; simp only [go_sem, Int.reduceEq, Int.reduceNe, Int.reduceLT, Int.reduceLE, Nat.reduceEqDiff, Nat.reduceAdd, Nat.reduceMul, Nat.reduceLT, Nat.reduceLeDiff, Nat.reduceSub, reduceCtorEq, reduceIte, Int.reduceToNat, beq_self_eq_true, Bool.and_self, opV, opC]
  refine vwp_seq_k fun Nc hNc => ?_
  refine vwp_seq_k fun Nd hNd => vreg tt_ok hF rfl ?_; simp only [go_sem, Int.reduceEq, Int.reduceNe, Int.reduceLT, Int.reduceLE, Nat.reduceEqDiff, Nat.reduceAdd, Nat.reduceMul, Nat.reduceLT, Nat.reduceLeDiff, Nat.reduceSub, reduceCtorEq, reduceIte, Int.reduceToNat, beq_self_eq_true, Bool.and_self, opV, opC]
  refine hNd _ (VWp.keep [0,3,4] [3] ?_); simp only [go_sem, Int.reduceEq, Int.reduceNe, Int.reduceLT, Int.reduceLE, Nat.reduceEqDiff, Nat.reduceAdd, Nat.reduceMul, Nat.reduceLT, Nat.reduceLeDiff, Nat.reduceSub, reduceCtorEq, reduceIte, Int.reduceToNat, beq_self_eq_true, Bool.and_self, opV, opC]
  refine vwp_block (vloop (fun k : Nat => [(0, .sl 5 (l.map opC)), (3, .ptr 3 0), (4, .int .i64 (k : Int))]) (fun k => [(3, .box 43 [.sl 4 ((mk l k).es.map entC), .sl 2 ((mk l k).gs.map grpC)])])
    (fun k => k ≤ 60 ∧ k ≤ l.length) (fun k => 60 - k) 0 (by omega) (by simp only [go_sem, Int.reduceEq, Int.reduceNe, Int.reduceLT, Int.reduceLE, Nat.reduceEqDiff, Nat.reduceAdd, Nat.reduceMul, Nat.reduceLT, Nat.reduceLeDiff, Nat.reduceSub, reduceCtorEq, reduceIte, Int.reduceToNat, beq_self_eq_true, Bool.and_self, opV, opC, mk]; rfl) ?_)
  rintro k ⟨hk, hkl⟩
  refine vwp_seq_k fun Ne hNe => ?_
  refine vmeet (fun b : Bool => [(0, .sl 5 (l.map opC)), (3, .ptr 3 0), (4, .int .i64 (k : Int)), (20, .bool b)]) (fun _ => [(3, .box 43 [.sl 4 ((mk l k).es.map entC), .sl 2 ((mk l k).gs.map grpC)])])
    (fun b => b = (decide (k < l.length) && decide (k < 60))) ?_ ?_
  · by_cases hq : k < l.length
    · have f1 : decide ((k : Int) < (l.length : Int)) = true := decide_eq_true (by omega)
      have f2 : decide ((k : Int) < 60) = decide (k < 60) := by apply decide_eq_decide.2; omega
      refine vreg tt_ok hF rfl ?_; simp only [go_sem, Int.reduceEq, Int.reduceNe, Int.reduceLT, Int.reduceLE, Nat.reduceEqDiff, Nat.reduceAdd, Nat.reduceMul, Nat.reduceLT, Nat.reduceLeDiff, Nat.reduceSub, reduceCtorEq, reduceIte, Int.reduceToNat, beq_self_eq_true, Bool.and_self, opV, opC, f1, f2]
      exact ⟨_, rfl, by simp [hq]⟩
    · have f1 : decide ((k : Int) < (l.length : Int)) = false := decide_eq_false (by omega)
      refine vreg tt_ok hF rfl ?_; simp only [go_sem, Int.reduceEq, Int.reduceNe, Int.reduceLT, Int.reduceLE, Nat.reduceEqDiff, Nat.reduceAdd, Nat.reduceMul, Nat.reduceLT, Nat.reduceLeDiff, Nat.reduceSub, reduceCtorEq, reduceIte, Int.reduceToNat, beq_self_eq_true, Bool.and_self, opV, opC, f1]
      exact ⟨_, rfl, by simp [hq]⟩
  intro b hb
  refine vif rfl ⟨fun ht => ?_, fun hf => ?_⟩
  · rw [ht] at hb
    have hb := Bool.and_eq_true_iff.1 hb.symm
    have hq : k < l.length := of_decide_eq_true hb.1
    have hq2 : k < 60 := of_decide_eq_true hb.2
    obtain ⟨x, hx⟩ : ∃ x, l[k]? = some x := ⟨_, List.getElem?_eq_getElem hq⟩
    have hrow : (l.map opC).getD k [] = [.int .u8 (x.kind : Int), .int .u8 (x.which : Int), .int .i64 (toI x.n), .int .i64 x.unit, .str x.serial] := getD_map l opC k x [] hx
    have hst : mk l (k + 1) = stepC (mk l k) x := foldl_take _ _ _ _ _ hx
    obtain ⟨g1, g2⟩ := mk_ok l k (by omega)
    have ho := hl x (List.mem_of_getElem? hx)
    obtain ⟨C, hC⟩ : ∃ C, mk l k = C := ⟨_, rfl⟩
    rw [hC] at g1 g2 hst ⊢
    have hw3 := which3 x.which ho.w
    obtain ⟨m5a, m5b⟩ := toI_mod ho 5 (by omega) (by omega)
    obtain ⟨m4a, m4b⟩ := toI_mod ho 4 (by omega) (by omega)
    have hr5 := rem5 x.which
    refine vwp_skip (hNe _ ?_)
    refine vwp_seq_k fun Ng hNg => ?_
    refine vwp_block ?_
    refine vmeet (fun _ : Unit => [(0, .sl 5 (l.map opC)), (3, .ptr 3 0), (4, .int .i64 (k : Int)), (5, .ptr 5 0), (6, .ptr 6 0)])
      (fun _ => [(3, .box 43 [.sl 4 (C.es.map entC), .sl 2 (C.gs.map grpC)]), (5, .box 36 [.sl 4 (C.es.map entC), .sl 2 (C.gs.map grpC)]), (6, .box 56 (opC x))]) (fun _ => True) ?_ ?_
    · refine vregord tt_ok mixed hF rfl false [[0, 1, 2, 3, 4, 5, 6, 7, 8, 9], [0, 1, 2, 3, 4, 6, 7, 8, 5, 9], [0, 1, 2, 3, 6, 7, 8, 4, 5, 9]] [(24, (.agg [.sl 4 (C.es.map entC), .sl 2 (C.gs.map grpC)], []))] (by kernel_rfl) ⟨?_, ?_, ?_, trivial⟩ <;> simp only [pickL, go_sem, Int.reduceEq, Int.reduceNe, Int.reduceLT, Int.reduceLE, Nat.reduceEqDiff, Nat.reduceAdd, Nat.reduceMul, Nat.reduceLT, Nat.reduceLeDiff, Nat.reduceSub, reduceCtorEq, reduceIte, Int.reduceToNat, beq_self_eq_true, Bool.and_self, opV, opC, hrow]
      all_goals
        repeat first | exact ⟨(), by simp⟩ | refine ⟨⟨by omega, by omega⟩, ?_⟩ | (refine .inl ⟨_, Prog_spec C g1 g2, rfl, ?_⟩; simp only [go_sem, Int.reduceEq, Int.reduceNe, Int.reduceLT, Int.reduceLE, Nat.reduceEqDiff, Nat.reduceAdd, Nat.reduceMul, Nat.reduceLT, Nat.reduceLeDiff, Nat.reduceSub, reduceCtorEq, reduceIte, Int.reduceToNat, beq_self_eq_true, Bool.and_self, opV, opC, hrow])
    intro _ _
    refine vwp_seq_k fun Ni hNi => vreg tt_ok hF rfl ?_; simp only [go_sem, Int.reduceEq, Int.reduceNe, Int.reduceLT, Int.reduceLE, Nat.reduceEqDiff, Nat.reduceAdd, Nat.reduceMul, Nat.reduceLT, Nat.reduceLeDiff, Nat.reduceSub, reduceCtorEq, reduceIte, Int.reduceToNat, beq_self_eq_true, Bool.and_self, opV, opC]
    refine .inl ⟨_, Word_spec x.which ho.w, ?_⟩; try simp only [go_sem, Int.reduceEq, Int.reduceNe, Int.reduceLT, Int.reduceLE, Nat.reduceEqDiff, Nat.reduceAdd, Nat.reduceMul, Nat.reduceLT, Nat.reduceLeDiff, Nat.reduceSub, reduceCtorEq, reduceIte, Int.reduceToNat, beq_self_eq_true, Bool.and_self, opV, opC]
    refine hNi _ (VWp.keep [0,3,4,5,6,7] [3,5,6] ?_); simp only [go_sem, Int.reduceEq, Int.reduceNe, Int.reduceLT, Int.reduceLE, Nat.reduceEqDiff, Nat.reduceAdd, Nat.reduceMul, Nat.reduceLT, Nat.reduceLeDiff, Nat.reduceSub, reduceCtorEq, reduceIte, Int.reduceToNat, beq_self_eq_true, Bool.and_self, opV, opC]
    refine vmeet (fun s : Bs => [(0, .sl 5 (l.map opC)), (3, .ptr 3 0), (4, .int .i64 (k : Int)), (5, .ptr 5 0), (6, .ptr 6 0), (7, .str s)])
      (fun _ => [(3, .box 43 [.sl 4 (C.es.map entC), .sl 2 (C.gs.map grpC)]), (5, .box 36 [.sl 4 (C.es.map entC), .sl 2 (C.gs.map grpC)]), (6, .box 56 (opC x))]) (fun s => s.length ≤ 1000000) ?_ ?_
    · refine vwp_seq_k fun Nk hNk => vreg tt_ok hF rfl ?_; simp only [go_sem, Int.reduceEq, Int.reduceNe, Int.reduceLT, Int.reduceLE, Nat.reduceEqDiff, Nat.reduceAdd, Nat.reduceMul, Nat.reduceLT, Nat.reduceLeDiff, Nat.reduceSub, reduceCtorEq, reduceIte, Int.reduceToNat, beq_self_eq_true, Bool.and_self, opV, opC, kind3]
      refine hNk _ (VWp.keep [0,3,4,5,6,7,35] [3,5,6] ?_); simp only [go_sem, Int.reduceEq, Int.reduceNe, Int.reduceLT, Int.reduceLE, Nat.reduceEqDiff, Nat.reduceAdd, Nat.reduceMul, Nat.reduceLT, Nat.reduceLeDiff, Nat.reduceSub, reduceCtorEq, reduceIte, Int.reduceToNat, beq_self_eq_true, Bool.and_self, opV, opC]
      refine vif rfl ⟨fun ht => ?_, fun hf => ?_⟩
      · obtain ⟨t, f, hres⟩ : ∃ t f, resolveC C (wordS (x.which / 3 * 3)) (1 + x.n % 5) = (t, f) := ⟨_, _, rfl⟩
        have hwl : (wordS (x.which / 3 * 3)).length ≤ 999 := by
          have := wordB_le (x.which / 3 * 3)
          unfold wordS; split
          · omega
          · rw [genName_len]; omega
        refine vwp_seq_k fun Nl hNl => vregd tt_ok mixed hF rfl (by kernel_rfl) (by kernel_rfl) ?_; simp only [go_sem, Int.reduceEq, Int.reduceNe, Int.reduceLT, Int.reduceLE, Nat.reduceEqDiff, Nat.reduceAdd, Nat.reduceMul, Nat.reduceLT, Nat.reduceLeDiff, Nat.reduceSub, reduceCtorEq, reduceIte, Int.reduceToNat, beq_self_eq_true, Bool.and_self, opV, opC, hw3, m5a, m5b]
        refine .inl ⟨_, Word_spec (x.which / 3 * 3) (by have := ho.w; omega), ?_⟩; try simp only [go_sem, Int.reduceEq, Int.reduceNe, Int.reduceLT, Int.reduceLE, Nat.reduceEqDiff, Nat.reduceAdd, Nat.reduceMul, Nat.reduceLT, Nat.reduceLeDiff, Nat.reduceSub, reduceCtorEq, reduceIte, Int.reduceToNat, beq_self_eq_true, Bool.and_self, opV, opC]
        refine .inl ⟨_, Resolve_at hres (by omega) (by omega), ?_⟩; try simp only [go_sem, Int.reduceEq, Int.reduceNe, Int.reduceLT, Int.reduceLE, Nat.reduceEqDiff, Nat.reduceAdd, Nat.reduceMul, Nat.reduceLT, Nat.reduceLeDiff, Nat.reduceSub, reduceCtorEq, reduceIte, Int.reduceToNat, beq_self_eq_true, Bool.and_self, opV, opC]
        refine hNl _ (VWp.keep [0,3,4,5,6,8,9] [3,5,6] ?_); simp only [go_sem, Int.reduceEq, Int.reduceNe, Int.reduceLT, Int.reduceLE, Nat.reduceEqDiff, Nat.reduceAdd, Nat.reduceMul, Nat.reduceLT, Nat.reduceLeDiff, Nat.reduceSub, reduceCtorEq, reduceIte, Int.reduceToNat, beq_self_eq_true, Bool.and_self, opV, opC]
        refine vwp_seq_k fun Nm hNm => vregd tt_ok mixed hF rfl (by kernel_rfl) (by kernel_rfl) ?_; simp only [go_sem, Int.reduceEq, Int.reduceNe, Int.reduceLT, Int.reduceLE, Nat.reduceEqDiff, Nat.reduceAdd, Nat.reduceMul, Nat.reduceLT, Nat.reduceLeDiff, Nat.reduceSub, reduceCtorEq, reduceIte, Int.reduceToNat, beq_self_eq_true, Bool.and_self, opV, opC, hw3, m5a, m5b]
        refine .inl ⟨_, Word_spec (x.which / 3 * 3) (by have := ho.w; omega), ?_⟩; try simp only [go_sem, Int.reduceEq, Int.reduceNe, Int.reduceLT, Int.reduceLE, Nat.reduceEqDiff, Nat.reduceAdd, Nat.reduceMul, Nat.reduceLT, Nat.reduceLeDiff, Nat.reduceSub, reduceCtorEq, reduceIte, Int.reduceToNat, beq_self_eq_true, Bool.and_self, opV, opC]
        refine .inl ⟨_, rResolve_at hres g1 g2 (by omega) (by omega) (by omega), ?_⟩; try simp only [go_sem, Int.reduceEq, Int.reduceNe, Int.reduceLT, Int.reduceLE, Nat.reduceEqDiff, Nat.reduceAdd, Nat.reduceMul, Nat.reduceLT, Nat.reduceLeDiff, Nat.reduceSub, reduceCtorEq, reduceIte, Int.reduceToNat, beq_self_eq_true, Bool.and_self, opV, opC]
        refine hNm _ (VWp.keep [0,3,4,5,6,8,9,10,11] [3,5,6] ?_); simp only [go_sem, Int.reduceEq, Int.reduceNe, Int.reduceLT, Int.reduceLE, Nat.reduceEqDiff, Nat.reduceAdd, Nat.reduceMul, Nat.reduceLT, Nat.reduceLeDiff, Nat.reduceSub, reduceCtorEq, reduceIte, Int.reduceToNat, beq_self_eq_true, Bool.and_self, opV, opC]
        refine vwp_seq_k fun Nn hNn => ?_
        refine vwp_seq_k fun No hNo => vreg tt_ok hF rfl ?_; simp only [go_sem, Int.reduceEq, Int.reduceNe, Int.reduceLT, Int.reduceLE, Nat.reduceEqDiff, Nat.reduceAdd, Nat.reduceMul, Nat.reduceLT, Nat.reduceLeDiff, Nat.reduceSub, reduceCtorEq, reduceIte, Int.reduceToNat, beq_self_eq_true, Bool.and_self, opV, opC]
        refine hNo _ (VWp.keep [0,3,4,5,6,8,75] [3,5,6] ?_); simp only [go_sem, Int.reduceEq, Int.reduceNe, Int.reduceLT, Int.reduceLE, Nat.reduceEqDiff, Nat.reduceAdd, Nat.reduceMul, Nat.reduceLT, Nat.reduceLeDiff, Nat.reduceSub, reduceCtorEq, reduceIte, Int.reduceToNat, beq_self_eq_true, Bool.and_self, opV, opC]
        refine vif rfl ⟨fun hf => (by cases hf), fun _ => ?_⟩
        refine vwp_skip (hNn _ ?_)
        refine vreg tt_ok hF rfl ?_; simp only [go_sem, Int.reduceEq, Int.reduceNe, Int.reduceLT, Int.reduceLE, Nat.reduceEqDiff, Nat.reduceAdd, Nat.reduceMul, Nat.reduceLT, Nat.reduceLeDiff, Nat.reduceSub, reduceCtorEq, reduceIte, Int.reduceToNat, beq_self_eq_true, Bool.and_self, opV, opC]
        exact ⟨t, by have := resolve_len hres hwl; omega, by simp⟩
      · refine vwp_skip ?_
        simp only [go_sem, Int.reduceEq, Int.reduceNe, Int.reduceLT, Int.reduceLE, Nat.reduceEqDiff, Nat.reduceAdd, Nat.reduceMul, Nat.reduceLT, Nat.reduceLeDiff, Nat.reduceSub, reduceCtorEq, reduceIte, Int.reduceToNat, beq_self_eq_true, Bool.and_self, opV, opC]
        exact ⟨wordS x.which, wordS_le _, by simp⟩
    intro s hs
    refine vwp_seq_k fun Nq hNq => ?_
    refine vwp_seq_k fun Nr hNr => vregd tt_ok mixed hF rfl (by kernel_rfl) (by kernel_rfl) ?_; simp only [go_sem, Int.reduceEq, Int.reduceNe, Int.reduceLT, Int.reduceLE, Nat.reduceEqDiff, Nat.reduceAdd, Nat.reduceMul, Nat.reduceLT, Nat.reduceLeDiff, Nat.reduceSub, reduceCtorEq, reduceIte, Int.reduceToNat, beq_self_eq_true, Bool.and_self, opV, opC, m4a, m4b, hr5]
    refine .inl ⟨_, checks_spec C g1 g2, ?_⟩; try simp only [go_sem, Int.reduceEq, Int.reduceNe, Int.reduceLT, Int.reduceLE, Nat.reduceEqDiff, Nat.reduceAdd, Nat.reduceMul, Nat.reduceLT, Nat.reduceLeDiff, Nat.reduceSub, reduceCtorEq, reduceIte, Int.reduceToNat, beq_self_eq_true, Bool.and_self, opV, opC]
    refine .inl ⟨_, lentry_spec s x ho, ?_⟩; try simp only [go_sem, Int.reduceEq, Int.reduceNe, Int.reduceLT, Int.reduceLE, Nat.reduceEqDiff, Nat.reduceAdd, Nat.reduceMul, Nat.reduceLT, Nat.reduceLeDiff, Nat.reduceSub, reduceCtorEq, reduceIte, Int.reduceToNat, beq_self_eq_true, Bool.and_self, opV, opC]
    refine .inl ⟨_, adds_spec C (entS s x) g1 g2, ?_⟩; try simp only [go_sem, Int.reduceEq, Int.reduceNe, Int.reduceLT, Int.reduceLE, Nat.reduceEqDiff, Nat.reduceAdd, Nat.reduceMul, Nat.reduceLT, Nat.reduceLeDiff, Nat.reduceSub, reduceCtorEq, reduceIte, Int.reduceToNat, beq_self_eq_true, Bool.and_self, opV, opC]
    try simp only [go_sem, Int.reduceEq, Int.reduceNe, Int.reduceLT, Int.reduceLE, Nat.reduceEqDiff, Nat.reduceAdd, Nat.reduceMul, Nat.reduceLT, Nat.reduceLeDiff, Nat.reduceSub, reduceCtorEq, reduceIte, Int.reduceToNat, beq_self_eq_true, Bool.and_self, opV, opC, m4a, m4b, hr5]
    refine .inl ⟨_, llooks_spec C s (1 + x.n % 4) (-((x.which % 5 : Nat) : Int)) g1 g2 hs (by omega) (by omega), ?_⟩; try simp only [go_sem, Int.reduceEq, Int.reduceNe, Int.reduceLT, Int.reduceLE, Nat.reduceEqDiff, Nat.reduceAdd, Nat.reduceMul, Nat.reduceLT, Nat.reduceLeDiff, Nat.reduceSub, reduceCtorEq, reduceIte, Int.reduceToNat, beq_self_eq_true, Bool.and_self, opV, opC]
    refine hNr _ (VWp.keep [0,3,4,6,104] [3,6] ?_); simp only [go_sem, Int.reduceEq, Int.reduceNe, Int.reduceLT, Int.reduceLE, Nat.reduceEqDiff, Nat.reduceAdd, Nat.reduceMul, Nat.reduceLT, Nat.reduceLeDiff, Nat.reduceSub, reduceCtorEq, reduceIte, Int.reduceToNat, beq_self_eq_true, Bool.and_self, opV, opC]
    refine vif rfl ⟨fun hf => (by cases hf), fun _ => ?_⟩
    refine vwp_skip (hNq _ ?_)
    refine vreg tt_ok hF rfl ?_; simp only [go_sem, Int.reduceEq, Int.reduceNe, Int.reduceLT, Int.reduceLE, Nat.reduceEqDiff, Nat.reduceAdd, Nat.reduceMul, Nat.reduceLT, Nat.reduceLeDiff, Nat.reduceSub, reduceCtorEq, reduceIte, Int.reduceToNat, beq_self_eq_true, Bool.and_self, opV, opC]
    refine .inl ⟨_, Do_spec C x ho g1 g2, ?_⟩; try simp only [go_sem, Int.reduceEq, Int.reduceNe, Int.reduceLT, Int.reduceLE, Nat.reduceEqDiff, Nat.reduceAdd, Nat.reduceMul, Nat.reduceLT, Nat.reduceLeDiff, Nat.reduceSub, reduceCtorEq, reduceIte, Int.reduceToNat, beq_self_eq_true, Bool.and_self, opV, opC]
    refine hNg _ (VWp.keep [0,3,4] [3] ?_); simp only [go_sem, Int.reduceEq, Int.reduceNe, Int.reduceLT, Int.reduceLE, Nat.reduceEqDiff, Nat.reduceAdd, Nat.reduceMul, Nat.reduceLT, Nat.reduceLeDiff, Nat.reduceSub, reduceCtorEq, reduceIte, Int.reduceToNat, beq_self_eq_true, Bool.and_self, opV, opC]
    refine vreg tt_ok hF rfl ?_; simp only [go_sem, Int.reduceEq, Int.reduceNe, Int.reduceLT, Int.reduceLE, Nat.reduceEqDiff, Nat.reduceAdd, Nat.reduceMul, Nat.reduceLT, Nat.reduceLeDiff, Nat.reduceSub, reduceCtorEq, reduceIte, Int.reduceToNat, beq_self_eq_true, Bool.and_self, opV, opC]
    rw [wrap_i64 (by omega) (by omega)]
    exact ⟨k + 1, ⟨by omega, by omega⟩, by omega, by simp only [hst]; simp⟩
  · refine vwp_exit ?_
    simp only [go_sem, Int.reduceEq, Int.reduceNe, Int.reduceLT, Int.reduceLE, Nat.reduceEqDiff, Nat.reduceAdd, Nat.reduceMul, Nat.reduceLT, Nat.reduceLeDiff, Nat.reduceSub, reduceCtorEq, reduceIte, Int.reduceToNat, beq_self_eq_true, Bool.and_self, opV, opC]
    refine hNc _ (VWp.keepR [] [] tt_ok hF rfl fun Nt hNt => ?_); simp only [go_sem, Int.reduceEq, Int.reduceNe, Int.reduceLT, Int.reduceLE, Nat.reduceEqDiff, Nat.reduceAdd, Nat.reduceMul, Nat.reduceLT, Nat.reduceLeDiff, Nat.reduceSub, reduceCtorEq, reduceIte, Int.reduceToNat, beq_self_eq_true, Bool.and_self, opV, opC]
    refine .inl ⟨_, works_spec, ?_⟩; try simp only [go_sem, Int.reduceEq, Int.reduceNe, Int.reduceLT, Int.reduceLE, Nat.reduceEqDiff, Nat.reduceAdd, Nat.reduceMul, Nat.reduceLT, Nat.reduceLeDiff, Nat.reduceSub, reduceCtorEq, reduceIte, Int.reduceToNat, beq_self_eq_true, Bool.and_self, opV, opC]
    refine hNt _ (VWp.keep [2] [] ?_); simp only [go_sem, Int.reduceEq, Int.reduceNe, Int.reduceLT, Int.reduceLE, Nat.reduceEqDiff, Nat.reduceAdd, Nat.reduceMul, Nat.reduceLT, Nat.reduceLeDiff, Nat.reduceSub, reduceCtorEq, reduceIte, Int.reduceToNat, beq_self_eq_true, Bool.and_self, opV, opC]
    refine vwp_ret ?_
    simp only [go_sem, Int.reduceEq, Int.reduceNe, Int.reduceLT, Int.reduceLE, Nat.reduceEqDiff, Nat.reduceAdd, Nat.reduceMul, Nat.reduceLT, Nat.reduceLeDiff, Nat.reduceSub, reduceCtorEq, reduceIte, Int.reduceToNat, beq_self_eq_true, Bool.and_self, opV, opC]
    exact LeV.refl _
theorem CatalogPlays_in (w : World) (v : Value) (l : List OpS) (hl : ∀ o ∈ l, OpOk o) (hn : l.length ≤ 9223372036854775807) (hv : Rep (S0 (fun _ _ => False) w) (.sl 5 (l.map opC)) v) :
    Calls Tryd.prog 8 #[v] w fun e w' => e = .returned (.bool true) ∧ Chg [] w w' :=
  spec_true (CatalogPlays_spec l hl hn) (vs := [v]) w ⟨_, _, rfl, hv, rfl⟩
end Go.Proofs.YtldkmclfhjcicaaDoor
