import Derived.Outline
import Derived.Test.YtnaljgmcpagbbaaGreatDoorJW
/- Layer 34: a statement, walked. -/
-- SIMP: beq_self_eq_true, Bool.and_self, List.take_length
namespace Go.Proofs.YtnaljgmcpagbbaaGreatDoor
open Go.RowKit
set_option linter.unusedVariables false
set_option linter.unusedSimpArgs false
theorem mem_size {L : List Jb} {l : Jb} (h : l ∈ L) : l.length ≤ sizeJ L := by
  induction L with
  | nil => cases h
  | cons a t ih =>
    rw [size_cons]
    rcases List.mem_cons.1 h with rfl | h
    · omega
    · have := ih h; omega
theorem size_drop (L : List Jb) (j : Nat) : sizeJ (L.drop j) ≤ sizeJ L := by
  induction L generalizing j with
  | nil => simp
  | cons a t ih =>
    cases j with
    | zero => simp
    | succ j => rw [List.drop_succ_cons, size_cons]; have := ih j; omega
def fldV (i : Nat) (name op : Jb) (R : Nat ⊕ (Jb × List Jb × Nat)) : V := match R with
  | .inl b => .tup [stm0, .int .i64 (b : Int)]
  | .inr (g, _, _) => restJ i name op g
theorem stmtV_refs (R : Nat ⊕ (StmJ × List Jb × Nat)) : (stmtV R).refs = [] := by cases R <;> rfl
set_option maxHeartbeats 16000000 in
set_option maxRecDepth 4000 in
theorem statement_B (L : List Jb) (i : Nat) (l : Jb) (hg : L[i]? = some l) (h2l : 2 ≤ l.length) (hL : L.length ≤ 1000000000) (hsz : sizeJ L ≤ 900000) :
    SpecB Tryz.prog 37 [.ptr 1000000 0] [(1000000, .box 54 [strsV L, .int .i64 (i : Int)])] (stmtV (stmtJ L.length l (L.drop (i + 1)) i)) [(1000000, .box 54 [strsV L, .int .i64 (stmtA L.length l (L.drop (i + 1)) i : Int)])] := by
  have hlt : i < L.length := (List.getElem?_eq_some_iff.1 hg).1
  have hmem : ∀ x ∈ L, x.length ≤ 1000000 := fun x hx => by have := mem_size hx; omega
  have hll := mem_size (List.mem_of_getElem? hg)
  have hls : l.length + sizeJ (L.drop (i + 1)) ≤ 900000 := by have := size_drop L i; rw [drop_cons L i hg, size_cons] at this; omega
  have hdl : (l.drop 2).length = l.length - 2 := List.length_drop
  obtain ⟨RV, hRV⟩ : ∃ R, stmtV (stmtJ L.length l (L.drop (i + 1)) i) = R := ⟨_, rfl⟩
  obtain ⟨RA, hRA⟩ : ∃ R, stmtA L.length l (L.drop (i + 1)) i = R := ⟨_, rfl⟩
  have hrefs : RV.refs = [] := by rw [← hRV]; exact stmtV_refs _
  have hrest := stmt_rest L.length l (L.drop (i + 1)) i
  have hbadV : (!(operJ (cut1J (cut1J (l.drop 2)).2).2 false).2 || !labelJ (cut1J (l.drop 2)).1 || !opJ (cut1J (cut1J (l.drop 2)).2).1) = true → RV = .tup [stm0, .int .i64 ((i + 1 : Nat) : Int)] := fun h => by
    rw [← hRV]; unfold stmtJ; dsimp only; rw [if_pos h]; rfl
  unfold stmtA at hRA
  rw [hRV] at hrest ⊢
  rw [show stmtA L.length l (L.drop (i + 1)) i = RA from by unfold stmtA; exact hRA]
  have c1 := cut1_len (l.drop 2)
  have h1 := cut_spec (l.drop 2) (by omega)
  generalize cut1J (l.drop 2) = nr at h1 c1 hrest hbadV hRA
  obtain ⟨name, rest1⟩ := nr
  simp only at h1 c1 hrest hbadV hRA
  have c2 := cut1_len rest1
  have h2 := cut_spec rest1 (by omega)
  generalize cut1J rest1 = nr at h2 c2 hrest hbadV hRA
  obtain ⟨op, rest2⟩ := nr
  simp only at h2 c2 hrest hbadV hRA
  have c3 := operJ_len rest2 false
  have h3 := operands_spec rest2 (by omega)
  generalize operJ rest2 false = fo at h3 c3 hrest hbadV hRA
  obtain ⟨f0, ok⟩ := fo
  simp only at h3 c3 hrest hbadV hRA
  have h4 := isLabel_spec name (by omega)
  have h5 := isOp_spec op
  generalize labelJ name = b1 at h4 hrest hbadV hRA
  generalize opJ op = b2 at h5 hrest hbadV hRA
  have hp : (0 : Int) ≤ (i : Int) ∧ (i : Int) < (L.length : Int) := ⟨by omega, by omega⟩
  have hrow : (L.map fun w => [V.str w]).getD i [] = [.str l] := by simp [hg]
  have hw : IntKind.i64.wrap ((i : Int) + 1) = ((i + 1 : Nat) : Int) := by rw [wrap_i64 (by omega) (by omega)]; rfl
  refine specB_of tt_ok Tryz.func37 rfl (by decide) Tryz.ntmps37 (congrArg Array.toList Tryz.results37) (by simp) (by decide) rfl (by simp only [go_sem, Int.reduceEq, Int.reduceNe, Int.reduceLT, Int.reduceLE, Nat.reduceEqDiff, Nat.reduceAdd, Nat.reduceMul, Nat.reduceLT, Nat.reduceLeDiff, Nat.reduceSub, reduceCtorEq, reduceIte, Int.reduceToNat, beq_self_eq_true, Bool.and_self, List.take_length, hrefs]) (fun F hF => ?_)
  refine vwp_seq_k fun Na hNa => vreg tt_ok hF rfl ?_; simp only [go_sem, Int.reduceEq, Int.reduceNe, Int.reduceLT, Int.reduceLE, Nat.reduceEqDiff, Nat.reduceAdd, Nat.reduceMul, Nat.reduceLT, Nat.reduceLeDiff, Nat.reduceSub, reduceCtorEq, reduceIte, Int.reduceToNat, beq_self_eq_true, Bool.and_self, List.take_length]
  refine hNa _ (VWp.keep [0,2] [2,1000000] ?_); simp only [go_sem, Int.reduceEq, Int.reduceNe, Int.reduceLT, Int.reduceLE, Nat.reduceEqDiff, Nat.reduceAdd, Nat.reduceMul, Nat.reduceLT, Nat.reduceLeDiff, Nat.reduceSub, reduceCtorEq, reduceIte, Int.reduceToNat, beq_self_eq_true, Bool.and_self, List.take_length]
  refine vwp_seq_k fun Nb hNb => vreg tt_ok hF rfl ?_; simp only [go_sem, Int.reduceEq, Int.reduceNe, Int.reduceLT, Int.reduceLE, Nat.reduceEqDiff, Nat.reduceAdd, Nat.reduceMul, Nat.reduceLT, Nat.reduceLeDiff, Nat.reduceSub, reduceCtorEq, reduceIte, Int.reduceToNat, beq_self_eq_true, Bool.and_self, List.take_length, hw]
  refine hNb _ (VWp.keep [0,2,4] [2,1000000] ?_); simp only [go_sem, Int.reduceEq, Int.reduceNe, Int.reduceLT, Int.reduceLE, Nat.reduceEqDiff, Nat.reduceAdd, Nat.reduceMul, Nat.reduceLT, Nat.reduceLeDiff, Nat.reduceSub, reduceCtorEq, reduceIte, Int.reduceToNat, beq_self_eq_true, Bool.and_self, List.take_length]
  refine vwp_seq_k fun Nc hNc => vregd tt_ok mixed hF rfl (by kernel_rfl) (by kernel_rfl) ?_; simp only [go_sem, Int.reduceEq, Int.reduceNe, Int.reduceLT, Int.reduceLE, Nat.reduceEqDiff, Nat.reduceAdd, Nat.reduceMul, Nat.reduceLT, Nat.reduceLeDiff, Nat.reduceSub, reduceCtorEq, reduceIte, Int.reduceToNat, beq_self_eq_true, Bool.and_self, List.take_length, List.length_map, hp, hrow]
  refine ⟨by omega, ?_⟩
  refine .inl ⟨_, h1, ?_⟩; simp only [go_sem, Int.reduceEq, Int.reduceNe, Int.reduceLT, Int.reduceLE, Nat.reduceEqDiff, Nat.reduceAdd, Nat.reduceMul, Nat.reduceLT, Nat.reduceLeDiff, Nat.reduceSub, reduceCtorEq, reduceIte, Int.reduceToNat, beq_self_eq_true, Bool.and_self, List.take_length]
  refine hNc _ (VWp.keepR [0,2,4,5,6] [2,1000000] tt_ok hF rfl fun Nd hNd => ?_); simp only [go_sem, Int.reduceEq, Int.reduceNe, Int.reduceLT, Int.reduceLE, Nat.reduceEqDiff, Nat.reduceAdd, Nat.reduceMul, Nat.reduceLT, Nat.reduceLeDiff, Nat.reduceSub, reduceCtorEq, reduceIte, Int.reduceToNat, beq_self_eq_true, Bool.and_self, List.take_length]
  refine .inl ⟨_, h2, ?_⟩; simp only [go_sem, Int.reduceEq, Int.reduceNe, Int.reduceLT, Int.reduceLE, Nat.reduceEqDiff, Nat.reduceAdd, Nat.reduceMul, Nat.reduceLT, Nat.reduceLeDiff, Nat.reduceSub, reduceCtorEq, reduceIte, Int.reduceToNat, beq_self_eq_true, Bool.and_self, List.take_length]
  refine hNd _ (VWp.keepR [0,2,4,5,6,7] [2,1000000] tt_ok hF rfl fun Ne hNe => ?_); simp only [go_sem, Int.reduceEq, Int.reduceNe, Int.reduceLT, Int.reduceLE, Nat.reduceEqDiff, Nat.reduceAdd, Nat.reduceMul, Nat.reduceLT, Nat.reduceLeDiff, Nat.reduceSub, reduceCtorEq, reduceIte, Int.reduceToNat, beq_self_eq_true, Bool.and_self, List.take_length]
  refine .inl ⟨_, h3, ?_⟩; simp only [go_sem, Int.reduceEq, Int.reduceNe, Int.reduceLT, Int.reduceLE, Nat.reduceEqDiff, Nat.reduceAdd, Nat.reduceMul, Nat.reduceLT, Nat.reduceLeDiff, Nat.reduceSub, reduceCtorEq, reduceIte, Int.reduceToNat, beq_self_eq_true, Bool.and_self, List.take_length]
  refine hNe _ (VWp.keep [0,2,4,5,7,8,9] [2,1000000] ?_); simp only [go_sem, Int.reduceEq, Int.reduceNe, Int.reduceLT, Int.reduceLE, Nat.reduceEqDiff, Nat.reduceAdd, Nat.reduceMul, Nat.reduceLT, Nat.reduceLeDiff, Nat.reduceSub, reduceCtorEq, reduceIte, Int.reduceToNat, beq_self_eq_true, Bool.and_self, List.take_length]
  refine vwp_seq_k fun Nf hNf => ?_
  refine vmeet (fun z : Bool => [(0, .ptr 1000000 0), (2, .ptr 2 0), (4, .int .i64 ((i + 1 : Nat) : Int)), (5, .str name), (7, .str op), (8, .str f0), (59, .bool z)]) (fun _ => [(1000000, .box 54 [strsV L, .int .i64 (i : Int)]), (2, .box 34 [.int .i64 0, .str [], .str [], .nil, .nil])]) (fun z => z = (!ok || !b1 || !b2)) ?_ ?_
  · cases ok
    · refine vreg tt_ok hF rfl ?_; simp only [go_sem, Int.reduceEq, Int.reduceNe, Int.reduceLT, Int.reduceLE, Nat.reduceEqDiff, Nat.reduceAdd, Nat.reduceMul, Nat.reduceLT, Nat.reduceLeDiff, Nat.reduceSub, reduceCtorEq, reduceIte, Int.reduceToNat, beq_self_eq_true, Bool.and_self, List.take_length]
      exact ⟨_, rfl, by simp⟩
    · cases b1
      · refine vreg tt_ok hF rfl ?_; simp only [go_sem, Int.reduceEq, Int.reduceNe, Int.reduceLT, Int.reduceLE, Nat.reduceEqDiff, Nat.reduceAdd, Nat.reduceMul, Nat.reduceLT, Nat.reduceLeDiff, Nat.reduceSub, reduceCtorEq, reduceIte, Int.reduceToNat, beq_self_eq_true, Bool.and_self, List.take_length]
        refine .inl ⟨_, h4, ?_⟩; try simp only [go_sem, Int.reduceEq, Int.reduceNe, Int.reduceLT, Int.reduceLE, Nat.reduceEqDiff, Nat.reduceAdd, Nat.reduceMul, Nat.reduceLT, Nat.reduceLeDiff, Nat.reduceSub, reduceCtorEq, reduceIte, Int.reduceToNat, beq_self_eq_true, Bool.and_self, List.take_length]
        exact ⟨_, rfl, by simp⟩
      · refine vreg tt_ok hF rfl ?_; simp only [go_sem, Int.reduceEq, Int.reduceNe, Int.reduceLT, Int.reduceLE, Nat.reduceEqDiff, Nat.reduceAdd, Nat.reduceMul, Nat.reduceLT, Nat.reduceLeDiff, Nat.reduceSub, reduceCtorEq, reduceIte, Int.reduceToNat, beq_self_eq_true, Bool.and_self, List.take_length]
        refine .inl ⟨_, h4, ?_⟩; try simp only [go_sem, Int.reduceEq, Int.reduceNe, Int.reduceLT, Int.reduceLE, Nat.reduceEqDiff, Nat.reduceAdd, Nat.reduceMul, Nat.reduceLT, Nat.reduceLeDiff, Nat.reduceSub, reduceCtorEq, reduceIte, Int.reduceToNat, beq_self_eq_true, Bool.and_self, List.take_length]
        refine .inl ⟨_, h5, ?_⟩; try simp only [go_sem, Int.reduceEq, Int.reduceNe, Int.reduceLT, Int.reduceLE, Nat.reduceEqDiff, Nat.reduceAdd, Nat.reduceMul, Nat.reduceLT, Nat.reduceLeDiff, Nat.reduceSub, reduceCtorEq, reduceIte, Int.reduceToNat, beq_self_eq_true, Bool.and_self, List.take_length]
        exact ⟨!b2, by simp, rfl⟩
  intro z hz
  refine vif rfl ⟨fun ht => ?_, fun hf => ?_⟩
  · have hb := hbadV (by rw [← hz]; exact ht)
    rw [if_pos (by rw [← hz]; exact ht)] at hRA
    subst hb
    subst hRA
    refine vwp_seq_k fun Nh hNh => vreg tt_ok hF rfl ?_; simp only [go_sem, Int.reduceEq, Int.reduceNe, Int.reduceLT, Int.reduceLE, Nat.reduceEqDiff, Nat.reduceAdd, Nat.reduceMul, Nat.reduceLT, Nat.reduceLeDiff, Nat.reduceSub, reduceCtorEq, reduceIte, Int.reduceToNat, beq_self_eq_true, Bool.and_self, List.take_length]
    refine hNh _ (VWp.keep [2,3] [2,1000000] ?_); simp only [go_sem, Int.reduceEq, Int.reduceNe, Int.reduceLT, Int.reduceLE, Nat.reduceEqDiff, Nat.reduceAdd, Nat.reduceMul, Nat.reduceLT, Nat.reduceLeDiff, Nat.reduceSub, reduceCtorEq, reduceIte, Int.reduceToNat, beq_self_eq_true, Bool.and_self, List.take_length]
    refine vwp_ret ?_
    simp only [go_sem, Int.reduceEq, Int.reduceNe, Int.reduceLT, Int.reduceLE, Nat.reduceEqDiff, Nat.reduceAdd, Nat.reduceMul, Nat.reduceLT, Nat.reduceLeDiff, Nat.reduceSub, reduceCtorEq, reduceIte, Int.reduceToNat, beq_self_eq_true, Bool.and_self, List.take_length]
    first | exact LeV.tup ⟨LeV.agg ⟨LeV.refl _, LeV.refl _, LeV.refl _, LeV.nil 3, LeV.refl _, trivial⟩, LeV.refl _, trivial⟩ | exact ⟨LeV.tup ⟨LeV.agg ⟨LeV.refl _, LeV.refl _, LeV.refl _, LeV.nil 3, LeV.refl _, trivial⟩, LeV.refl _, trivial⟩, rfl⟩
  · rw [if_neg (by rw [← hz, hf]; decide)] at hRA
    have hrest := hrest (by rw [← hz]; exact hf)
    have hrest : fldV i name op (fieldJ L.length ((L.drop (i + 1)).length + 1) f0 (L.drop (i + 1)) (i + 1)) = RV := hrest.symm
    have hRA : contI (fieldJ L.length ((L.drop (i + 1)).length + 1) f0 (L.drop (i + 1)) (i + 1)) = RA := hRA
    clear hbadV
    refine vwp_skip (hNf _ ?_)
    refine vwp_seq_k fun Ni hNi => vreg tt_ok hF rfl ?_; simp only [go_sem, Int.reduceEq, Int.reduceNe, Int.reduceLT, Int.reduceLE, Nat.reduceEqDiff, Nat.reduceAdd, Nat.reduceMul, Nat.reduceLT, Nat.reduceLeDiff, Nat.reduceSub, reduceCtorEq, reduceIte, Int.reduceToNat, beq_self_eq_true, Bool.and_self, List.take_length, hw]
    refine hNi _ (VWp.keep [0,2,4,5,7,8] [2,1000000] ?_); simp only [go_sem, Int.reduceEq, Int.reduceNe, Int.reduceLT, Int.reduceLE, Nat.reduceEqDiff, Nat.reduceAdd, Nat.reduceMul, Nat.reduceLT, Nat.reduceLeDiff, Nat.reduceSub, reduceCtorEq, reduceIte, Int.reduceToNat, beq_self_eq_true, Bool.and_self, List.take_length]
    refine vwp_seq_k fun Nj hNj => ?_
    refine vwp_block (vloop (fun z : Nat × Jb => [(0, .ptr 1000000 0), (2, .ptr 2 0), (4, .int .i64 ((i + 1 : Nat) : Int)), (5, .str name), (7, .str op), (8, .str z.2)]) (fun z => [(1000000, .box 54 [strsV L, .int .i64 (z.1 : Int)]), (2, .box 34 [.int .i64 0, .str [], .str [], .nil, .nil])])
      (fun z => z.1 ≤ L.length ∧ z.2.length + sizeJ (L.drop z.1) ≤ 900000 ∧ ∃ k, (L.drop z.1).length < k ∧ fldV i name op (fieldJ L.length k z.2 (L.drop z.1) z.1) = RV ∧ contI (fieldJ L.length k z.2 (L.drop z.1) z.1) = RA) (fun z => L.length - z.1) (i + 1, f0) ⟨by simp only; omega, by simp only; omega, _, Nat.lt_succ_self _, hrest, hRA⟩ (by simp only [go_sem, Int.reduceEq, Int.reduceNe, Int.reduceLT, Int.reduceLE, Nat.reduceEqDiff, Nat.reduceAdd, Nat.reduceMul, Nat.reduceLT, Nat.reduceLeDiff, Nat.reduceSub, reduceCtorEq, reduceIte, Int.reduceToNat, beq_self_eq_true, Bool.and_self, List.take_length]) ?_)
    rintro ⟨j, f⟩ ⟨hj, hfs, k, hk, j1, j2⟩
    have hj : j ≤ L.length := hj
    have hfs : f.length + sizeJ (L.drop j) ≤ 900000 := hfs
    have hk : (L.drop j).length < k := hk
    have j1 : fldV i name op (fieldJ L.length k f (L.drop j) j) = RV := j1
    have j2 : contI (fieldJ L.length k f (L.drop j) j) = RA := j2
    clear hrest hRA h1 h2 h3 h4 h5
    try dsimp only
    obtain ⟨k, rfl⟩ : ∃ k', k = k' + 1 := ⟨k - 1, by omega⟩
    rw [fieldJ_succ, ← ends_comma] at j1 j2
    have h6 := HasSuffix_spec f [44] (by omega)
    generalize endsJ f [44] = e at h6 j1 j2
    refine vwp_seq_k fun Nk hNk => ?_
    refine vwp_seq_k fun Nl hNl => vreg tt_ok hF rfl ?_; simp only [go_sem, Int.reduceEq, Int.reduceNe, Int.reduceLT, Int.reduceLE, Nat.reduceEqDiff, Nat.reduceAdd, Nat.reduceMul, Nat.reduceLT, Nat.reduceLeDiff, Nat.reduceSub, reduceCtorEq, reduceIte, Int.reduceToNat, beq_self_eq_true, Bool.and_self, List.take_length]
    refine .inl ⟨_, h6, ?_⟩; try simp only [go_sem, Int.reduceEq, Int.reduceNe, Int.reduceLT, Int.reduceLE, Nat.reduceEqDiff, Nat.reduceAdd, Nat.reduceMul, Nat.reduceLT, Nat.reduceLeDiff, Nat.reduceSub, reduceCtorEq, reduceIte, Int.reduceToNat, beq_self_eq_true, Bool.and_self, List.take_length]
    refine hNl _ (VWp.keep [0,2,4,5,7,8,70] [2,1000000] ?_); simp only [go_sem, Int.reduceEq, Int.reduceNe, Int.reduceLT, Int.reduceLE, Nat.reduceEqDiff, Nat.reduceAdd, Nat.reduceMul, Nat.reduceLT, Nat.reduceLeDiff, Nat.reduceSub, reduceCtorEq, reduceIte, Int.reduceToNat, beq_self_eq_true, Bool.and_self, List.take_length]
    cases e
    · refine vif rfl ⟨fun ht => (by cases ht), fun hf => ?_⟩
      rw [if_neg (by decide)] at j1 j2
      have j1 : restJ i name op f = RV := j1
      have j2 : j = RA := j2
      subst j1; subst j2
      refine vwp_exit ?_
      simp only [go_sem, Int.reduceEq, Int.reduceNe, Int.reduceLT, Int.reduceLE, Nat.reduceEqDiff, Nat.reduceAdd, Nat.reduceMul, Nat.reduceLT, Nat.reduceLeDiff, Nat.reduceSub, reduceCtorEq, reduceIte, Int.reduceToNat, beq_self_eq_true, Bool.and_self, List.take_length]
      refine hNj _ (VWp.keepR [2,4,5,7,8] [2,1000000] tt_ok hF rfl fun Nq hNq => ?_); simp only [go_sem, Int.reduceEq, Int.reduceNe, Int.reduceLT, Int.reduceLE, Nat.reduceEqDiff, Nat.reduceAdd, Nat.reduceMul, Nat.reduceLT, Nat.reduceLeDiff, Nat.reduceSub, reduceCtorEq, reduceIte, Int.reduceToNat, beq_self_eq_true, Bool.and_self, List.take_length]
      refine hNq _ (VWp.keep [2,4,8,12] [2,12,1000000] ?_); simp only [go_sem, Int.reduceEq, Int.reduceNe, Int.reduceLT, Int.reduceLE, Nat.reduceEqDiff, Nat.reduceAdd, Nat.reduceMul, Nat.reduceLT, Nat.reduceLeDiff, Nat.reduceSub, reduceCtorEq, reduceIte, Int.reduceToNat, beq_self_eq_true, Bool.and_self, List.take_length]
      refine vwp_seq_k fun Nr hNr => ?_
      have e1 : decide (f = ([] : Jb)) = f.isEmpty := by cases f <;> simp
      cases hfe : f.isEmpty
      · rw [hfe] at e1
        refine vwp_seq_k fun Ns hNs => vreg tt_ok hF rfl ?_; simp only [go_sem, Int.reduceEq, Int.reduceNe, Int.reduceLT, Int.reduceLE, Nat.reduceEqDiff, Nat.reduceAdd, Nat.reduceMul, Nat.reduceLT, Nat.reduceLeDiff, Nat.reduceSub, reduceCtorEq, reduceIte, Int.reduceToNat, beq_self_eq_true, Bool.and_self, List.take_length, e1]
        refine hNs _ (VWp.keep [2,4,8,12,88] [2,12,1000000] ?_); simp only [go_sem, Int.reduceEq, Int.reduceNe, Int.reduceLT, Int.reduceLE, Nat.reduceEqDiff, Nat.reduceAdd, Nat.reduceMul, Nat.reduceLT, Nat.reduceLeDiff, Nat.reduceSub, reduceCtorEq, reduceIte, Int.reduceToNat, beq_self_eq_true, Bool.and_self, List.take_length]
        refine vif rfl ⟨fun ht => (by cases ht), fun hf => ?_⟩
        refine vwp_skip (hNr _ ?_)
        have h7 := split_spec f (by omega)
        have hsl := fun ws => splitJ_len (s := f) (ws := ws)
        have hrj : restJ i name op f = match splitJ f with
            | none => .tup [stm0, .int .i64 ((i + 1 : Nat) : Int)]
            | some ws => match parsesJ ws with
              | none => .tup [stm0, .int .i64 ((i + 1 : Nat) : Int)]
              | some ps => .tup [stmN ⟨(i : Int) + 1, name, op, ps, []⟩, .int .i64 0] := by unfold restJ; rw [if_neg (by rw [hfe]; decide)]; rfl
        obtain ⟨RV, hRV⟩ : ∃ R, restJ i name op f = R := ⟨_, rfl⟩
        rw [hRV] at hrj
        cases hs : splitJ f with
        | none =>
          rw [hs] at h7 hrj
          have h7 : Spec Tryz.prog 57 [.str f] (.tup [strsV [], .bool false]) := h7
          have hrj : RV = .tup [stm0, .int .i64 ((i + 1 : Nat) : Int)] := hrj
          refine vwp_seq_k fun Nu hNu => vreg tt_ok hF rfl ?_; simp only [go_sem, Int.reduceEq, Int.reduceNe, Int.reduceLT, Int.reduceLE, Nat.reduceEqDiff, Nat.reduceAdd, Nat.reduceMul, Nat.reduceLT, Nat.reduceLeDiff, Nat.reduceSub, reduceCtorEq, reduceIte, Int.reduceToNat, beq_self_eq_true, Bool.and_self, List.take_length]
          refine .inl ⟨_, h7, ?_⟩; try simp only [go_sem, Int.reduceEq, Int.reduceNe, Int.reduceLT, Int.reduceLE, Nat.reduceEqDiff, Nat.reduceAdd, Nat.reduceMul, Nat.reduceLT, Nat.reduceLeDiff, Nat.reduceSub, reduceCtorEq, reduceIte, Int.reduceToNat, beq_self_eq_true, Bool.and_self, List.take_length]
          refine hNu _ (VWp.keep [2,4,9,12,13] [2,12,1000000] ?_); simp only [go_sem, Int.reduceEq, Int.reduceNe, Int.reduceLT, Int.reduceLE, Nat.reduceEqDiff, Nat.reduceAdd, Nat.reduceMul, Nat.reduceLT, Nat.reduceLeDiff, Nat.reduceSub, reduceCtorEq, reduceIte, Int.reduceToNat, beq_self_eq_true, Bool.and_self, List.take_length]
          refine vwp_seq_k fun Nv hNv => ?_
          refine vwp_seq_k fun Nw hNw => vreg tt_ok hF rfl ?_; simp only [go_sem, Int.reduceEq, Int.reduceNe, Int.reduceLT, Int.reduceLE, Nat.reduceEqDiff, Nat.reduceAdd, Nat.reduceMul, Nat.reduceLT, Nat.reduceLeDiff, Nat.reduceSub, reduceCtorEq, reduceIte, Int.reduceToNat, beq_self_eq_true, Bool.and_self, List.take_length]
          refine hNw _ (VWp.keep [2,4,12,13,96] [2,12,1000000] ?_); simp only [go_sem, Int.reduceEq, Int.reduceNe, Int.reduceLT, Int.reduceLE, Nat.reduceEqDiff, Nat.reduceAdd, Nat.reduceMul, Nat.reduceLT, Nat.reduceLeDiff, Nat.reduceSub, reduceCtorEq, reduceIte, Int.reduceToNat, beq_self_eq_true, Bool.and_self, List.take_length]
          refine vif rfl ⟨fun ht => ?_, fun hf => (by cases hf)⟩
          refine vwp_seq_k fun Nx hNx => vreg tt_ok hF rfl ?_; simp only [go_sem, Int.reduceEq, Int.reduceNe, Int.reduceLT, Int.reduceLE, Nat.reduceEqDiff, Nat.reduceAdd, Nat.reduceMul, Nat.reduceLT, Nat.reduceLeDiff, Nat.reduceSub, reduceCtorEq, reduceIte, Int.reduceToNat, beq_self_eq_true, Bool.and_self, List.take_length]
          refine hNx _ (VWp.keep [2,3] [2,1000000] ?_); simp only [go_sem, Int.reduceEq, Int.reduceNe, Int.reduceLT, Int.reduceLE, Nat.reduceEqDiff, Nat.reduceAdd, Nat.reduceMul, Nat.reduceLT, Nat.reduceLeDiff, Nat.reduceSub, reduceCtorEq, reduceIte, Int.reduceToNat, beq_self_eq_true, Bool.and_self, List.take_length]
          refine vwp_ret ?_
          simp only [go_sem, Int.reduceEq, Int.reduceNe, Int.reduceLT, Int.reduceLE, Nat.reduceEqDiff, Nat.reduceAdd, Nat.reduceMul, Nat.reduceLT, Nat.reduceLeDiff, Nat.reduceSub, reduceCtorEq, reduceIte, Int.reduceToNat, beq_self_eq_true, Bool.and_self, List.take_length]
          rw [hRV, hrj]
          first | exact LeV.tup ⟨LeV.agg ⟨LeV.refl _, LeV.refl _, LeV.refl _, LeV.nil 3, LeV.refl _, trivial⟩, LeV.refl _, trivial⟩ | exact ⟨LeV.tup ⟨LeV.agg ⟨LeV.refl _, LeV.refl _, LeV.refl _, LeV.nil 3, LeV.refl _, trivial⟩, LeV.refl _, trivial⟩, rfl⟩
        | some ws =>
          rw [hs] at h7 hrj
          obtain ⟨hw1, hw2⟩ := hsl ws hs
          have h7 : Spec Tryz.prog 57 [.str f] (.tup [strsV ws, .bool true]) := h7
          have hrj : RV = match parsesJ ws with
              | none => .tup [stm0, .int .i64 ((i + 1 : Nat) : Int)]
              | some ps => .tup [stmN ⟨(i : Int) + 1, name, op, ps, []⟩, .int .i64 0] := hrj
          refine vwp_seq_k fun Nu hNu => vreg tt_ok hF rfl ?_; simp only [go_sem, Int.reduceEq, Int.reduceNe, Int.reduceLT, Int.reduceLE, Nat.reduceEqDiff, Nat.reduceAdd, Nat.reduceMul, Nat.reduceLT, Nat.reduceLeDiff, Nat.reduceSub, reduceCtorEq, reduceIte, Int.reduceToNat, beq_self_eq_true, Bool.and_self, List.take_length]
          refine .inl ⟨_, h7, ?_⟩; try simp only [go_sem, Int.reduceEq, Int.reduceNe, Int.reduceLT, Int.reduceLE, Nat.reduceEqDiff, Nat.reduceAdd, Nat.reduceMul, Nat.reduceLT, Nat.reduceLeDiff, Nat.reduceSub, reduceCtorEq, reduceIte, Int.reduceToNat, beq_self_eq_true, Bool.and_self, List.take_length]
          refine hNu _ (VWp.keep [2,4,9,12,13] [2,12,1000000] ?_); simp only [go_sem, Int.reduceEq, Int.reduceNe, Int.reduceLT, Int.reduceLE, Nat.reduceEqDiff, Nat.reduceAdd, Nat.reduceMul, Nat.reduceLT, Nat.reduceLeDiff, Nat.reduceSub, reduceCtorEq, reduceIte, Int.reduceToNat, beq_self_eq_true, Bool.and_self, List.take_length]
          refine vwp_seq_k fun Nv hNv => ?_
          refine vwp_seq_k fun Nw hNw => vreg tt_ok hF rfl ?_; simp only [go_sem, Int.reduceEq, Int.reduceNe, Int.reduceLT, Int.reduceLE, Nat.reduceEqDiff, Nat.reduceAdd, Nat.reduceMul, Nat.reduceLT, Nat.reduceLeDiff, Nat.reduceSub, reduceCtorEq, reduceIte, Int.reduceToNat, beq_self_eq_true, Bool.and_self, List.take_length]
          refine hNw _ (VWp.keep [2,4,12,13,96] [2,12,1000000] ?_); simp only [go_sem, Int.reduceEq, Int.reduceNe, Int.reduceLT, Int.reduceLE, Nat.reduceEqDiff, Nat.reduceAdd, Nat.reduceMul, Nat.reduceLT, Nat.reduceLeDiff, Nat.reduceSub, reduceCtorEq, reduceIte, Int.reduceToNat, beq_self_eq_true, Bool.and_self, List.take_length]
          refine vif rfl ⟨fun ht => (by cases ht), fun hf => ?_⟩
          refine vwp_skip (hNv _ ?_)
          refine vwp_seq_k fun Ny hNy => ?_
          refine vwp_seq_k fun Nz hNz => vreg tt_ok hF rfl ?_; simp only [go_sem, Int.reduceEq, Int.reduceNe, Int.reduceLT, Int.reduceLE, Nat.reduceEqDiff, Nat.reduceAdd, Nat.reduceMul, Nat.reduceLT, Nat.reduceLeDiff, Nat.reduceSub, reduceCtorEq, reduceIte, Int.reduceToNat, beq_self_eq_true, Bool.and_self, List.take_length]
          refine hNz _ (VWp.keep [2,4,12,99,100,101] [2,12,1000000] ?_); simp only [go_sem, Int.reduceEq, Int.reduceNe, Int.reduceLT, Int.reduceLE, Nat.reduceEqDiff, Nat.reduceAdd, Nat.reduceMul, Nat.reduceLT, Nat.reduceLeDiff, Nat.reduceSub, reduceCtorEq, reduceIte, Int.reduceToNat, beq_self_eq_true, Bool.and_self, List.take_length]
          refine VWp.adoptB 118 3 37 (o := 12) (i := 3) rfl rfl rfl (by decide) ?_
          refine VWp.keep [2,4,12,99,100,101] [2,12,1000000,118] ?_; simp only [go_sem, Int.reduceEq, Int.reduceNe, Int.reduceLT, Int.reduceLE, Nat.reduceEqDiff, Nat.reduceAdd, Nat.reduceMul, Nat.reduceLT, Nat.reduceLeDiff, Nat.reduceSub, reduceCtorEq, reduceIte, Int.reduceToNat, beq_self_eq_true, Bool.and_self, List.take_length]
          refine vwp_block (vloop (fun z : Nat × List PrmJ => [(2, .ptr 2 0), (4, .int .i64 ((i + 1 : Nat) : Int)), (12, .ptr 12 0), (99, strsV ws), (100, .int .i64 (ws.length : Int)), (101, .int .i64 (z.1 : Int))])
            (fun z => [(2, .box 34 [.int .i64 0, .str [], .str [], .nil, .nil]), (12, .box 34 [.int .i64 ((i + 1 : Nat) : Int), .str name, .str op, .own 118 z.2.length, .nil]), (1000000, .box 54 [strsV L, .int .i64 (j : Int)]), (118, .arr 3 37 (z.2.map prmC))])
            (fun z => z.1 ≤ ws.length ∧ z.2.length ≤ z.1 ∧ parsesJ ws = (parsesJ (ws.drop z.1)).map (z.2 ++ ·)) (fun z => ws.length - z.1) (0, []) ⟨Nat.zero_le _, Nat.le_refl _, by simp⟩ (by simp only [go_sem, Int.reduceEq, Int.reduceNe, Int.reduceLT, Int.reduceLE, Nat.reduceEqDiff, Nat.reduceAdd, Nat.reduceMul, Nat.reduceLT, Nat.reduceLeDiff, Nat.reduceSub, reduceCtorEq, reduceIte, Int.reduceToNat, beq_self_eq_true, Bool.and_self, List.take_length, List.length_map]) ?_)
          rintro ⟨m, ps⟩ ⟨m1, m2, m3⟩
          have m1 : m ≤ ws.length := m1
          have m2 : ps.length ≤ m := m2
          have m3 : parsesJ ws = (parsesJ (ws.drop m)).map (ps ++ ·) := m3
          try dsimp only
          refine vwp_seq_k fun Naa hNaa => vreg tt_ok hF rfl ?_; simp only [go_sem, Int.reduceEq, Int.reduceNe, Int.reduceLT, Int.reduceLE, Nat.reduceEqDiff, Nat.reduceAdd, Nat.reduceMul, Nat.reduceLT, Nat.reduceLeDiff, Nat.reduceSub, reduceCtorEq, reduceIte, Int.reduceToNat, beq_self_eq_true, Bool.and_self, List.take_length]
          refine hNaa _ (VWp.keep [2,4,12,99,100,101,102] [2,12,1000000,118] ?_); simp only [go_sem, Int.reduceEq, Int.reduceNe, Int.reduceLT, Int.reduceLE, Nat.reduceEqDiff, Nat.reduceAdd, Nat.reduceMul, Nat.reduceLT, Nat.reduceLeDiff, Nat.reduceSub, reduceCtorEq, reduceIte, Int.reduceToNat, beq_self_eq_true, Bool.and_self, List.take_length]
          refine vwp_seq_k fun Nab hNab => ?_
          refine vif rfl ⟨fun ht => ?_, fun hf => ?_⟩
          · have hmlt : m < ws.length := by have := of_decide_eq_true ht; omega
            obtain ⟨w, hwg⟩ : ∃ w, ws[m]? = some w := ⟨_, List.getElem?_eq_getElem hmlt⟩
            have hrow2 : (ws.map fun w => [V.str w]).getD m [] = [.str w] := by simp [hwg]
            have hwl := hw2 w (List.mem_of_getElem? hwg)
            have hp2 : (0 : Int) ≤ (m : Int) ∧ (m : Int) < (ws.length : Int) := ⟨by omega, by omega⟩
            rw [drop_cons ws m hwg, parses_step] at m3
            have h8 := parse_spec w (by omega)
            refine vwp_skip (hNab _ ?_)
            refine vwp_seq_k fun Nac hNac => ?_
            refine vwp_block ?_
            refine vwp_seq_k fun Nad hNad => vreg tt_ok hF rfl ?_; simp only [go_sem, Int.reduceEq, Int.reduceNe, Int.reduceLT, Int.reduceLE, Nat.reduceEqDiff, Nat.reduceAdd, Nat.reduceMul, Nat.reduceLT, Nat.reduceLeDiff, Nat.reduceSub, reduceCtorEq, reduceIte, Int.reduceToNat, beq_self_eq_true, Bool.and_self, List.take_length, List.length_map, hp2, hrow2]
            refine hNad _ (VWp.keep [2,4,12,15,99,100,101] [2,12,1000000,118] ?_); simp only [go_sem, Int.reduceEq, Int.reduceNe, Int.reduceLT, Int.reduceLE, Nat.reduceEqDiff, Nat.reduceAdd, Nat.reduceMul, Nat.reduceLT, Nat.reduceLeDiff, Nat.reduceSub, reduceCtorEq, reduceIte, Int.reduceToNat, beq_self_eq_true, Bool.and_self, List.take_length]
            rcases parse_ok w with ⟨p, hp1, hpr⟩ | ⟨hp1, p, hpr⟩
            · rw [hpr] at h8
              rw [hp1] at m3
              refine vwp_seq_k fun Nae hNae => vreg tt_ok hF rfl ?_; simp only [go_sem, Int.reduceEq, Int.reduceNe, Int.reduceLT, Int.reduceLE, Nat.reduceEqDiff, Nat.reduceAdd, Nat.reduceMul, Nat.reduceLT, Nat.reduceLeDiff, Nat.reduceSub, reduceCtorEq, reduceIte, Int.reduceToNat, beq_self_eq_true, Bool.and_self, List.take_length]
              refine .inl ⟨_, h8, ?_⟩; try simp only [go_sem, Int.reduceEq, Int.reduceNe, Int.reduceLT, Int.reduceLE, Nat.reduceEqDiff, Nat.reduceAdd, Nat.reduceMul, Nat.reduceLT, Nat.reduceLeDiff, Nat.reduceSub, reduceCtorEq, reduceIte, Int.reduceToNat, beq_self_eq_true, Bool.and_self, List.take_length]
              refine hNae _ (VWp.keep [2,4,12,16,17,99,100,101] [2,12,16,1000000,118] ?_); simp only [go_sem, Int.reduceEq, Int.reduceNe, Int.reduceLT, Int.reduceLE, Nat.reduceEqDiff, Nat.reduceAdd, Nat.reduceMul, Nat.reduceLT, Nat.reduceLeDiff, Nat.reduceSub, reduceCtorEq, reduceIte, Int.reduceToNat, beq_self_eq_true, Bool.and_self, List.take_length]
              refine vwp_seq_k fun Naf hNaf => ?_
              refine vwp_seq_k fun Nag hNag => vreg tt_ok hF rfl ?_; simp only [go_sem, Int.reduceEq, Int.reduceNe, Int.reduceLT, Int.reduceLE, Nat.reduceEqDiff, Nat.reduceAdd, Nat.reduceMul, Nat.reduceLT, Nat.reduceLeDiff, Nat.reduceSub, reduceCtorEq, reduceIte, Int.reduceToNat, beq_self_eq_true, Bool.and_self, List.take_length]
              refine hNag _ (VWp.keep [2,4,12,16,99,100,101,111] [2,12,16,1000000,118] ?_); simp only [go_sem, Int.reduceEq, Int.reduceNe, Int.reduceLT, Int.reduceLE, Nat.reduceEqDiff, Nat.reduceAdd, Nat.reduceMul, Nat.reduceLT, Nat.reduceLeDiff, Nat.reduceSub, reduceCtorEq, reduceIte, Int.reduceToNat, beq_self_eq_true, Bool.and_self, List.take_length]
              refine vif rfl ⟨fun ht => (by cases ht), fun hf => ?_⟩
              refine vwp_skip (hNaf _ ?_)
              refine vreg tt_ok hF rfl ?_; simp only [go_sem, Int.reduceEq, Int.reduceNe, Int.reduceLT, Int.reduceLE, Nat.reduceEqDiff, Nat.reduceAdd, Nat.reduceMul, Nat.reduceLT, Nat.reduceLeDiff, Nat.reduceSub, reduceCtorEq, reduceIte, Int.reduceToNat, beq_self_eq_true, Bool.and_self, List.take_length]
              refine ⟨by omega, ?_⟩
              refine hNac _ (VWp.keep [2,4,12,99,100,101] [2,12,1000000,118] ?_); simp only [go_sem, Int.reduceEq, Int.reduceNe, Int.reduceLT, Int.reduceLE, Nat.reduceEqDiff, Nat.reduceAdd, Nat.reduceMul, Nat.reduceLT, Nat.reduceLeDiff, Nat.reduceSub, reduceCtorEq, reduceIte, Int.reduceToNat, beq_self_eq_true, Bool.and_self, List.take_length]
              refine vreg tt_ok hF rfl ?_; simp only [go_sem, Int.reduceEq, Int.reduceNe, Int.reduceLT, Int.reduceLE, Nat.reduceEqDiff, Nat.reduceAdd, Nat.reduceMul, Nat.reduceLT, Nat.reduceLeDiff, Nat.reduceSub, reduceCtorEq, reduceIte, Int.reduceToNat, beq_self_eq_true, Bool.and_self, List.take_length]
              rw [wrap_i64 (by omega) (by omega)]
              refine ⟨(m + 1, ps ++ [p]), ⟨by simp only; omega, by simp; omega, ?_⟩, by simp only; omega, by simp [prmC, strsV]⟩
              rw [m3]
              cases parsesJ (ws.drop (m + 1)) <;> simp
            · rw [hpr] at h8
              rw [hp1] at m3
              have m3 : parsesJ ws = none := by rw [m3]; cases parsesJ (ws.drop (m + 1)) <;> rfl
              rw [m3] at hrj
              have hrj : RV = .tup [stm0, .int .i64 ((i + 1 : Nat) : Int)] := hrj
              refine vwp_seq_k fun Nae hNae => vreg tt_ok hF rfl ?_; simp only [go_sem, Int.reduceEq, Int.reduceNe, Int.reduceLT, Int.reduceLE, Nat.reduceEqDiff, Nat.reduceAdd, Nat.reduceMul, Nat.reduceLT, Nat.reduceLeDiff, Nat.reduceSub, reduceCtorEq, reduceIte, Int.reduceToNat, beq_self_eq_true, Bool.and_self, List.take_length]
              refine .inl ⟨_, h8, ?_⟩; try simp only [go_sem, Int.reduceEq, Int.reduceNe, Int.reduceLT, Int.reduceLE, Nat.reduceEqDiff, Nat.reduceAdd, Nat.reduceMul, Nat.reduceLT, Nat.reduceLeDiff, Nat.reduceSub, reduceCtorEq, reduceIte, Int.reduceToNat, beq_self_eq_true, Bool.and_self, List.take_length]
              refine hNae _ (VWp.keep [2,4,12,16,17,99,100,101] [2,12,16,1000000,118] ?_); simp only [go_sem, Int.reduceEq, Int.reduceNe, Int.reduceLT, Int.reduceLE, Nat.reduceEqDiff, Nat.reduceAdd, Nat.reduceMul, Nat.reduceLT, Nat.reduceLeDiff, Nat.reduceSub, reduceCtorEq, reduceIte, Int.reduceToNat, beq_self_eq_true, Bool.and_self, List.take_length]
              refine vwp_seq_k fun Naf hNaf => ?_
              refine vwp_seq_k fun Nag hNag => vreg tt_ok hF rfl ?_; simp only [go_sem, Int.reduceEq, Int.reduceNe, Int.reduceLT, Int.reduceLE, Nat.reduceEqDiff, Nat.reduceAdd, Nat.reduceMul, Nat.reduceLT, Nat.reduceLeDiff, Nat.reduceSub, reduceCtorEq, reduceIte, Int.reduceToNat, beq_self_eq_true, Bool.and_self, List.take_length]
              refine hNag _ (VWp.keep [2,4,12,16,99,100,101,111] [2,12,16,1000000,118] ?_); simp only [go_sem, Int.reduceEq, Int.reduceNe, Int.reduceLT, Int.reduceLE, Nat.reduceEqDiff, Nat.reduceAdd, Nat.reduceMul, Nat.reduceLT, Nat.reduceLeDiff, Nat.reduceSub, reduceCtorEq, reduceIte, Int.reduceToNat, beq_self_eq_true, Bool.and_self, List.take_length]
              refine vif rfl ⟨fun ht => ?_, fun hf => (by cases hf)⟩
              refine vwp_seq_k fun Nah hNah => vreg tt_ok hF rfl ?_; simp only [go_sem, Int.reduceEq, Int.reduceNe, Int.reduceLT, Int.reduceLE, Nat.reduceEqDiff, Nat.reduceAdd, Nat.reduceMul, Nat.reduceLT, Nat.reduceLeDiff, Nat.reduceSub, reduceCtorEq, reduceIte, Int.reduceToNat, beq_self_eq_true, Bool.and_self, List.take_length]
              refine hNah _ (VWp.keep [2,3] [2,1000000] ?_); simp only [go_sem, Int.reduceEq, Int.reduceNe, Int.reduceLT, Int.reduceLE, Nat.reduceEqDiff, Nat.reduceAdd, Nat.reduceMul, Nat.reduceLT, Nat.reduceLeDiff, Nat.reduceSub, reduceCtorEq, reduceIte, Int.reduceToNat, beq_self_eq_true, Bool.and_self, List.take_length]
              refine vwp_ret ?_
              simp only [go_sem, Int.reduceEq, Int.reduceNe, Int.reduceLT, Int.reduceLE, Nat.reduceEqDiff, Nat.reduceAdd, Nat.reduceMul, Nat.reduceLT, Nat.reduceLeDiff, Nat.reduceSub, reduceCtorEq, reduceIte, Int.reduceToNat, beq_self_eq_true, Bool.and_self, List.take_length]
              rw [hRV, hrj]
              first | exact LeV.tup ⟨LeV.agg ⟨LeV.refl _, LeV.refl _, LeV.refl _, LeV.nil 3, LeV.refl _, trivial⟩, LeV.refl _, trivial⟩ | exact ⟨LeV.tup ⟨LeV.agg ⟨LeV.refl _, LeV.refl _, LeV.refl _, LeV.nil 3, LeV.refl _, trivial⟩, LeV.refl _, trivial⟩, rfl⟩
          · have hm : m = ws.length := by have := of_decide_eq_false hf; omega
            subst hm
            rw [List.drop_length] at m3
            have m3 : parsesJ ws = some (ps ++ []) := m3
            rw [List.append_nil] at m3
            rw [m3] at hrj
            have hrj : RV = .tup [stmN ⟨(i : Int) + 1, name, op, ps, []⟩, .int .i64 0] := hrj
            refine vwp_exit ?_
            simp only [go_sem, Int.reduceEq, Int.reduceNe, Int.reduceLT, Int.reduceLE, Nat.reduceEqDiff, Nat.reduceAdd, Nat.reduceMul, Nat.reduceLT, Nat.reduceLeDiff, Nat.reduceSub, reduceCtorEq, reduceIte, Int.reduceToNat, beq_self_eq_true, Bool.and_self, List.take_length]
            refine hNy _ (VWp.keepR [2,12] [2,12,1000000,118] tt_ok hF rfl fun Nai hNai => ?_); simp only [go_sem, Int.reduceEq, Int.reduceNe, Int.reduceLT, Int.reduceLE, Nat.reduceEqDiff, Nat.reduceAdd, Nat.reduceMul, Nat.reduceLT, Nat.reduceLeDiff, Nat.reduceSub, reduceCtorEq, reduceIte, Int.reduceToNat, beq_self_eq_true, Bool.and_self, List.take_length]
            refine hNai _ (VWp.keep [2,3] [2,1000000,118] ?_); simp only [go_sem, Int.reduceEq, Int.reduceNe, Int.reduceLT, Int.reduceLE, Nat.reduceEqDiff, Nat.reduceAdd, Nat.reduceMul, Nat.reduceLT, Nat.reduceLeDiff, Nat.reduceSub, reduceCtorEq, reduceIte, Int.reduceToNat, beq_self_eq_true, Bool.and_self, List.take_length]
            refine vwp_ret ?_
            simp only [go_sem, Int.reduceEq, Int.reduceNe, Int.reduceLT, Int.reduceLE, Nat.reduceEqDiff, Nat.reduceAdd, Nat.reduceMul, Nat.reduceLT, Nat.reduceLeDiff, Nat.reduceSub, reduceCtorEq, reduceIte, Int.reduceToNat, beq_self_eq_true, Bool.and_self, List.take_length]
            rw [hRV, hrj]
            first | exact LeV.of_eq (by simp [stmN, prmsV]) | exact ⟨LeV.of_eq (by simp [stmN, prmsV]), rfl⟩
      · rw [hfe] at e1
        have hrj : restJ i name op f = .tup [stmN ⟨(i : Int) + 1, name, op, [], []⟩, .int .i64 0] := by unfold restJ; rw [if_pos hfe]
        refine vwp_seq_k fun Ns hNs => vreg tt_ok hF rfl ?_; simp only [go_sem, Int.reduceEq, Int.reduceNe, Int.reduceLT, Int.reduceLE, Nat.reduceEqDiff, Nat.reduceAdd, Nat.reduceMul, Nat.reduceLT, Nat.reduceLeDiff, Nat.reduceSub, reduceCtorEq, reduceIte, Int.reduceToNat, beq_self_eq_true, Bool.and_self, List.take_length, e1]
        refine hNs _ (VWp.keep [2,4,8,12,88] [2,12,1000000] ?_); simp only [go_sem, Int.reduceEq, Int.reduceNe, Int.reduceLT, Int.reduceLE, Nat.reduceEqDiff, Nat.reduceAdd, Nat.reduceMul, Nat.reduceLT, Nat.reduceLeDiff, Nat.reduceSub, reduceCtorEq, reduceIte, Int.reduceToNat, beq_self_eq_true, Bool.and_self, List.take_length]
        refine vif rfl ⟨fun ht => ?_, fun hf => (by cases hf)⟩
        refine vwp_seq_k fun Nt hNt => vreg tt_ok hF rfl ?_; simp only [go_sem, Int.reduceEq, Int.reduceNe, Int.reduceLT, Int.reduceLE, Nat.reduceEqDiff, Nat.reduceAdd, Nat.reduceMul, Nat.reduceLT, Nat.reduceLeDiff, Nat.reduceSub, reduceCtorEq, reduceIte, Int.reduceToNat, beq_self_eq_true, Bool.and_self, List.take_length]
        refine hNt _ (VWp.keep [2,3] [2,1000000] ?_); simp only [go_sem, Int.reduceEq, Int.reduceNe, Int.reduceLT, Int.reduceLE, Nat.reduceEqDiff, Nat.reduceAdd, Nat.reduceMul, Nat.reduceLT, Nat.reduceLeDiff, Nat.reduceSub, reduceCtorEq, reduceIte, Int.reduceToNat, beq_self_eq_true, Bool.and_self, List.take_length]
        refine vwp_ret ?_
        simp only [go_sem, Int.reduceEq, Int.reduceNe, Int.reduceLT, Int.reduceLE, Nat.reduceEqDiff, Nat.reduceAdd, Nat.reduceMul, Nat.reduceLT, Nat.reduceLeDiff, Nat.reduceSub, reduceCtorEq, reduceIte, Int.reduceToNat, beq_self_eq_true, Bool.and_self, List.take_length]
        rw [hrj]
        first | exact LeV.tup ⟨LeV.agg ⟨LeV.of_eq (by simp), LeV.refl _, LeV.refl _, LeV.nil 3, LeV.refl _, trivial⟩, LeV.refl _, trivial⟩ | exact ⟨LeV.tup ⟨LeV.agg ⟨LeV.of_eq (by simp), LeV.refl _, LeV.refl _, LeV.nil 3, LeV.refl _, trivial⟩, LeV.refl _, trivial⟩, rfl⟩
    · refine vif rfl ⟨fun ht => ?_, fun hf => (by cases hf)⟩
      rw [if_pos rfl] at j1 j2
      have h7 := continued_B L j hj hL hmem
      refine vwp_skip (hNk _ ?_)
      refine vwp_block ?_
      cases hc : contJ L.length (L.drop j) j with
      | inl b =>
        rw [hc] at h7 j1 j2
        have hb := contJ_pos (by omega) _ _ hc
        have j1 : V.tup [stm0, .int .i64 (b : Int)] = RV := j1
        have j2 : b = RA := j2
        subst j1; subst j2
        simp only [contV, contI] at h7
        have e1 : decide ((0 : Int) < (b : Int)) = true := decide_eq_true (by omega)
        refine vwp_seq_k fun Nm hNm => vreg tt_ok hF rfl ?_; simp only [go_sem, Int.reduceEq, Int.reduceNe, Int.reduceLT, Int.reduceLE, Nat.reduceEqDiff, Nat.reduceAdd, Nat.reduceMul, Nat.reduceLT, Nat.reduceLeDiff, Nat.reduceSub, reduceCtorEq, reduceIte, Int.reduceToNat, beq_self_eq_true, Bool.and_self, List.take_length]
        refine .inr (bxo [(1000000, 1000000)] rfl ?_); simp only [go_sem, Int.reduceEq, Int.reduceNe, Int.reduceLT, Int.reduceLE, Nat.reduceEqDiff, Nat.reduceAdd, Nat.reduceMul, Nat.reduceLT, Nat.reduceLeDiff, Nat.reduceSub, reduceCtorEq, reduceIte, Int.reduceToNat, beq_self_eq_true, Bool.and_self, List.take_length]; refine ⟨_, _, h7, ?_⟩; try simp only [go_sem, Int.reduceEq, Int.reduceNe, Int.reduceLT, Int.reduceLE, Nat.reduceEqDiff, Nat.reduceAdd, Nat.reduceMul, Nat.reduceLT, Nat.reduceLeDiff, Nat.reduceSub, reduceCtorEq, reduceIte, Int.reduceToNat, beq_self_eq_true, Bool.and_self, List.take_length]
        refine hNm _ (VWp.keep [0,2,4,5,7,8,10,11] [2,1000000] ?_); simp only [go_sem, Int.reduceEq, Int.reduceNe, Int.reduceLT, Int.reduceLE, Nat.reduceEqDiff, Nat.reduceAdd, Nat.reduceMul, Nat.reduceLT, Nat.reduceLeDiff, Nat.reduceSub, reduceCtorEq, reduceIte, Int.reduceToNat, beq_self_eq_true, Bool.and_self, List.take_length]
        refine vwp_seq_k fun Nn hNn => ?_
        refine vwp_seq_k fun No hNo => vreg tt_ok hF rfl ?_; simp only [go_sem, Int.reduceEq, Int.reduceNe, Int.reduceLT, Int.reduceLE, Nat.reduceEqDiff, Nat.reduceAdd, Nat.reduceMul, Nat.reduceLT, Nat.reduceLeDiff, Nat.reduceSub, reduceCtorEq, reduceIte, Int.reduceToNat, beq_self_eq_true, Bool.and_self, List.take_length, e1]
        refine hNo _ (VWp.keep [0,2,4,5,7,8,10,11,77] [2,1000000] ?_); simp only [go_sem, Int.reduceEq, Int.reduceNe, Int.reduceLT, Int.reduceLE, Nat.reduceEqDiff, Nat.reduceAdd, Nat.reduceMul, Nat.reduceLT, Nat.reduceLeDiff, Nat.reduceSub, reduceCtorEq, reduceIte, Int.reduceToNat, beq_self_eq_true, Bool.and_self, List.take_length]
        refine vif rfl ⟨fun ht => ?_, fun hf => (by cases hf)⟩
        refine vwp_seq_k fun Np hNp => vreg tt_ok hF rfl ?_; simp only [go_sem, Int.reduceEq, Int.reduceNe, Int.reduceLT, Int.reduceLE, Nat.reduceEqDiff, Nat.reduceAdd, Nat.reduceMul, Nat.reduceLT, Nat.reduceLeDiff, Nat.reduceSub, reduceCtorEq, reduceIte, Int.reduceToNat, beq_self_eq_true, Bool.and_self, List.take_length]
        refine hNp _ (VWp.keep [2,3] [2,1000000] ?_); simp only [go_sem, Int.reduceEq, Int.reduceNe, Int.reduceLT, Int.reduceLE, Nat.reduceEqDiff, Nat.reduceAdd, Nat.reduceMul, Nat.reduceLT, Nat.reduceLeDiff, Nat.reduceSub, reduceCtorEq, reduceIte, Int.reduceToNat, beq_self_eq_true, Bool.and_self, List.take_length]
        refine vwp_ret ?_
        simp only [go_sem, Int.reduceEq, Int.reduceNe, Int.reduceLT, Int.reduceLE, Nat.reduceEqDiff, Nat.reduceAdd, Nat.reduceMul, Nat.reduceLT, Nat.reduceLeDiff, Nat.reduceSub, reduceCtorEq, reduceIte, Int.reduceToNat, beq_self_eq_true, Bool.and_self, List.take_length]
        first | exact LeV.tup ⟨LeV.agg ⟨LeV.refl _, LeV.refl _, LeV.refl _, LeV.nil 3, LeV.refl _, trivial⟩, LeV.refl _, trivial⟩ | exact ⟨LeV.tup ⟨LeV.agg ⟨LeV.refl _, LeV.refl _, LeV.refl _, LeV.nil 3, LeV.refl _, trivial⟩, LeV.refl _, trivial⟩, rfl⟩
      | inr x =>
        obtain ⟨g, t2, i2⟩ := x
        rw [hc] at h7 j1 j2
        have hs1 := contJ_len _ _ hc
        have hs2 := contJ_size _ _ hc
        obtain ⟨pre, hpre, _⟩ := contJ_pre _ _ hc
        obtain ⟨q1, q2, q3⟩ := suffix_drop pre hpre hs1.2.1 hj
        subst q1
        have j1 : fldV i name op (fieldJ L.length k (f ++ g) (L.drop i2) i2) = RV := j1
        have j2 : contI (fieldJ L.length k (f ++ g) (L.drop i2) i2) = RA := j2
        simp only [contV, contI] at h7
        have hdd : (L.drop j).length = L.length - j := List.length_drop
        have hd2 : (L.drop i2).length = L.length - i2 := List.length_drop
        refine vwp_seq_k fun Nm hNm => vreg tt_ok hF rfl ?_; simp only [go_sem, Int.reduceEq, Int.reduceNe, Int.reduceLT, Int.reduceLE, Nat.reduceEqDiff, Nat.reduceAdd, Nat.reduceMul, Nat.reduceLT, Nat.reduceLeDiff, Nat.reduceSub, reduceCtorEq, reduceIte, Int.reduceToNat, beq_self_eq_true, Bool.and_self, List.take_length]
        refine .inr (bxo [(1000000, 1000000)] rfl ?_); simp only [go_sem, Int.reduceEq, Int.reduceNe, Int.reduceLT, Int.reduceLE, Nat.reduceEqDiff, Nat.reduceAdd, Nat.reduceMul, Nat.reduceLT, Nat.reduceLeDiff, Nat.reduceSub, reduceCtorEq, reduceIte, Int.reduceToNat, beq_self_eq_true, Bool.and_self, List.take_length]; refine ⟨_, _, h7, ?_⟩; try simp only [go_sem, Int.reduceEq, Int.reduceNe, Int.reduceLT, Int.reduceLE, Nat.reduceEqDiff, Nat.reduceAdd, Nat.reduceMul, Nat.reduceLT, Nat.reduceLeDiff, Nat.reduceSub, reduceCtorEq, reduceIte, Int.reduceToNat, beq_self_eq_true, Bool.and_self, List.take_length]
        refine hNm _ (VWp.keep [0,2,4,5,7,8,10,11] [2,1000000] ?_); simp only [go_sem, Int.reduceEq, Int.reduceNe, Int.reduceLT, Int.reduceLE, Nat.reduceEqDiff, Nat.reduceAdd, Nat.reduceMul, Nat.reduceLT, Nat.reduceLeDiff, Nat.reduceSub, reduceCtorEq, reduceIte, Int.reduceToNat, beq_self_eq_true, Bool.and_self, List.take_length]
        refine vwp_seq_k fun Nn hNn => ?_
        refine vwp_seq_k fun No hNo => vreg tt_ok hF rfl ?_; simp only [go_sem, Int.reduceEq, Int.reduceNe, Int.reduceLT, Int.reduceLE, Nat.reduceEqDiff, Nat.reduceAdd, Nat.reduceMul, Nat.reduceLT, Nat.reduceLeDiff, Nat.reduceSub, reduceCtorEq, reduceIte, Int.reduceToNat, beq_self_eq_true, Bool.and_self, List.take_length]
        refine hNo _ (VWp.keep [0,2,4,5,7,8,10,11,77] [2,1000000] ?_); simp only [go_sem, Int.reduceEq, Int.reduceNe, Int.reduceLT, Int.reduceLE, Nat.reduceEqDiff, Nat.reduceAdd, Nat.reduceMul, Nat.reduceLT, Nat.reduceLeDiff, Nat.reduceSub, reduceCtorEq, reduceIte, Int.reduceToNat, beq_self_eq_true, Bool.and_self, List.take_length]
        refine vif rfl ⟨fun ht => (by cases ht), fun hf => ?_⟩
        refine vwp_skip (hNn _ ?_)
        refine vreg tt_ok hF rfl ?_; simp only [go_sem, Int.reduceEq, Int.reduceNe, Int.reduceLT, Int.reduceLE, Nat.reduceEqDiff, Nat.reduceAdd, Nat.reduceMul, Nat.reduceLT, Nat.reduceLeDiff, Nat.reduceSub, reduceCtorEq, reduceIte, Int.reduceToNat, beq_self_eq_true, Bool.and_self, List.take_length]
        refine ⟨by omega, ?_⟩
        exact ⟨(i2, f ++ g), ⟨q2, by show (f ++ g).length + sizeJ (L.drop i2) ≤ 900000; rw [List.length_append]; omega, k, by show (L.drop i2).length < k; omega, j1, j2⟩, by simp only; omega, by simp⟩
end Go.Proofs.YtnaljgmcpagbbaaGreatDoor
