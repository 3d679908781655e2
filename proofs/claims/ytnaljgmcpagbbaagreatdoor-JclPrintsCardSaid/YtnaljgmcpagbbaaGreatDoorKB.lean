import Derived.Outline
import Derived.Test.YtnaljgmcpagbbaaGreatDoorKA
/- Layer 34: render, Print. -/
-- SIMP: beq_self_eq_true, Bool.and_self, List.take_length
namespace Go.Proofs.YtnaljgmcpagbbaaGreatDoor
open Go.RowKit
set_option linter.unusedVariables false
set_option linter.unusedSimpArgs false
theorem word_some (p : PrmJ) : wordJ p = if (wordJ p).isSome then some (txtS p) else none := by
  rw [wordJ_eq]
  split
  · split <;> simp
  · rfl
theorem rowsJ_cons (i : Nat) (line : Jb) (p : PrmJ) (ps : List PrmJ) : rowsJ i line (p :: ps) = match wordJ p with
    | none => none
    | some t => if ps.isEmpty && t.isEmpty then none
      else if i == 0 then rowsJ (i + 1) (line ++ 32 :: (if ps.isEmpty then t else t ++ [44])) ps
      else if line.length + (if ps.isEmpty then t else t ++ [44]).length ≤ 80 then rowsJ (i + 1) (line ++ (if ps.isEmpty then t else t ++ [44])) ps
      else match rowsJ (i + 1) ([47, 47, 32] ++ (if ps.isEmpty then t else t ++ [44])) ps with
        | some r => some (line :: r)
        | none => none := rfl
def outR (out : List Jb) (r : Option (List Jb)) : Option (List Jb) := match r with
  | some r => some (out ++ r)
  | none => none
def rendV (s : StmJ) : V :=
  if !labelJ s.name || !opJ s.op then .tup [strsV [], .bool false]
  else match rowsJ 0 ([47, 47] ++ s.name ++ 32 :: s.op) s.params with
    | some r => .tup [strsV r, .bool (r.all fun t => decide (t.length ≤ 80))]
    | none => .tup [strsV [], .bool false]
theorem rendV_refs (s : StmJ) : (rendV s).refs = [] := by
  unfold rendV
  split
  · rfl
  · split <;> rfl
theorem drop_consP (L : List PrmJ) (j : Nat) {l : PrmJ} (h : L[j]? = some l) : L.drop j = l :: L.drop (j + 1) := by
  obtain ⟨h1, h2⟩ := List.getElem?_eq_some_iff.1 h
  rw [List.drop_eq_getElem_cons h1, h2]
set_option maxHeartbeats 16000000 in
set_option maxRecDepth 4000 in
theorem render_spec (s : StmJ) (hn : s.name.length ≤ 400000) (ho : s.op.length ≤ 400000) (hl : s.params.length ≤ 1000000) (hp : ∀ p ∈ s.params, p.key.length ≤ 400000 ∧ p.value.length ≤ 400000 ∧ p.parts.length ≤ 1000000000) :
    Spec Tryz.prog 12 [stmV s] (rendV s) := by
  obtain ⟨RV, hRV⟩ : ∃ R, rendV s = R := ⟨_, rfl⟩
  have hrefs : RV.refs = [] := by rw [← hRV]; exact rendV_refs s
  rw [hRV]
  obtain ⟨line, name, op, params, data⟩ := s
  have hn : name.length ≤ 400000 := hn
  have ho : op.length ≤ 400000 := ho
  have hl : params.length ≤ 1000000 := hl
  have hp : ∀ p ∈ params, p.key.length ≤ 400000 ∧ p.value.length ≤ 400000 ∧ p.parts.length ≤ 1000000000 := hp
  have hRV : (if !labelJ name || !opJ op then .tup [strsV [], .bool false]
    else match rowsJ 0 ([47, 47] ++ name ++ 32 :: op) params with
      | some r => .tup [strsV r, .bool (r.all fun t => decide (t.length ≤ 80))]
      | none => .tup [strsV [], .bool false]) = RV := hRV
  have h1 := isLabel_spec name (by omega)
  have h2 := isOp_spec op
  generalize labelJ name = b1 at h1 hRV
  generalize opJ op = b2 at h2 hRV
  refine spec_of tt_ok Tryz.func12 rfl (by decide) Tryz.ntmps12 (congrArg Array.toList Tryz.results12) (by simp) (by decide) hrefs rfl (fun F hF => ?_)
  refine vwp_seq_k fun Na hNa => vreg tt_ok hF rfl ?_; simp only [go_sem, Int.reduceEq, Int.reduceNe, Int.reduceLT, Int.reduceLE, Nat.reduceEqDiff, Nat.reduceAdd, Nat.reduceMul, Nat.reduceLT, Nat.reduceLeDiff, Nat.reduceSub, reduceCtorEq, reduceIte, Int.reduceToNat, beq_self_eq_true, Bool.and_self, List.take_length]
  refine hNa _ (VWp.keep [1] [1] ?_); simp only [go_sem, Int.reduceEq, Int.reduceNe, Int.reduceLT, Int.reduceLE, Nat.reduceEqDiff, Nat.reduceAdd, Nat.reduceMul, Nat.reduceLT, Nat.reduceLeDiff, Nat.reduceSub, reduceCtorEq, reduceIte, Int.reduceToNat, beq_self_eq_true, Bool.and_self, List.take_length]
  refine vwp_seq_k fun Nb hNb => ?_
  refine vmeet (fun z : Bool => [(1, .ptr 1 0), (20, .bool z)]) (fun _ => [(1, .box 34 (stmC ⟨line, name, op, params, data⟩))]) (fun z => z = (!b1 || !b2)) ?_ ?_
  · cases b1
    · refine vreg tt_ok hF rfl ?_; simp only [go_sem, Int.reduceEq, Int.reduceNe, Int.reduceLT, Int.reduceLE, Nat.reduceEqDiff, Nat.reduceAdd, Nat.reduceMul, Nat.reduceLT, Nat.reduceLeDiff, Nat.reduceSub, reduceCtorEq, reduceIte, Int.reduceToNat, beq_self_eq_true, Bool.and_self, List.take_length]
      refine .inl ⟨_, h1, ?_⟩; try simp only [go_sem, Int.reduceEq, Int.reduceNe, Int.reduceLT, Int.reduceLE, Nat.reduceEqDiff, Nat.reduceAdd, Nat.reduceMul, Nat.reduceLT, Nat.reduceLeDiff, Nat.reduceSub, reduceCtorEq, reduceIte, Int.reduceToNat, beq_self_eq_true, Bool.and_self, List.take_length]
      exact ⟨_, rfl, by simp [stmC, prmsV, strsV]⟩
    · refine vreg tt_ok hF rfl ?_; simp only [go_sem, Int.reduceEq, Int.reduceNe, Int.reduceLT, Int.reduceLE, Nat.reduceEqDiff, Nat.reduceAdd, Nat.reduceMul, Nat.reduceLT, Nat.reduceLeDiff, Nat.reduceSub, reduceCtorEq, reduceIte, Int.reduceToNat, beq_self_eq_true, Bool.and_self, List.take_length]
      refine .inl ⟨_, h1, ?_⟩; try simp only [go_sem, Int.reduceEq, Int.reduceNe, Int.reduceLT, Int.reduceLE, Nat.reduceEqDiff, Nat.reduceAdd, Nat.reduceMul, Nat.reduceLT, Nat.reduceLeDiff, Nat.reduceSub, reduceCtorEq, reduceIte, Int.reduceToNat, beq_self_eq_true, Bool.and_self, List.take_length]
      refine .inl ⟨_, h2, ?_⟩; try simp only [go_sem, Int.reduceEq, Int.reduceNe, Int.reduceLT, Int.reduceLE, Nat.reduceEqDiff, Nat.reduceAdd, Nat.reduceMul, Nat.reduceLT, Nat.reduceLeDiff, Nat.reduceSub, reduceCtorEq, reduceIte, Int.reduceToNat, beq_self_eq_true, Bool.and_self, List.take_length]
      exact ⟨!b2, by simp, by simp [stmC, prmsV, strsV]⟩
  intro z hz
  simp only [stmC, prmsV, strsV]
  refine vif rfl ⟨fun ht => ?_, fun hf => ?_⟩
  · rw [if_pos (by rw [← hz]; exact ht)] at hRV
    subst hRV
    refine vwp_seq_k fun Nd hNd => vreg tt_ok hF rfl ?_; simp only [go_sem, Int.reduceEq, Int.reduceNe, Int.reduceLT, Int.reduceLE, Nat.reduceEqDiff, Nat.reduceAdd, Nat.reduceMul, Nat.reduceLT, Nat.reduceLeDiff, Nat.reduceSub, reduceCtorEq, reduceIte, Int.reduceToNat, beq_self_eq_true, Bool.and_self, List.take_length]
    refine hNd _ (VWp.keep [2,3] [] ?_); simp only [go_sem, Int.reduceEq, Int.reduceNe, Int.reduceLT, Int.reduceLE, Nat.reduceEqDiff, Nat.reduceAdd, Nat.reduceMul, Nat.reduceLT, Nat.reduceLeDiff, Nat.reduceSub, reduceCtorEq, reduceIte, Int.reduceToNat, beq_self_eq_true, Bool.and_self, List.take_length]
    refine vwp_ret ?_
    simp only [go_sem, Int.reduceEq, Int.reduceNe, Int.reduceLT, Int.reduceLE, Nat.reduceEqDiff, Nat.reduceAdd, Nat.reduceMul, Nat.reduceLT, Nat.reduceLeDiff, Nat.reduceSub, reduceCtorEq, reduceIte, Int.reduceToNat, beq_self_eq_true, Bool.and_self, List.take_length]
    exact LeV.tup ⟨LeV.nil 1, LeV.refl _, trivial⟩
  · rw [if_neg (by rw [← hz, hf]; decide)] at hRV
    refine vwp_skip (hNb _ ?_)
    refine vwp_seq_k fun Ne hNe => vreg tt_ok hF rfl ?_; simp only [go_sem, Int.reduceEq, Int.reduceNe, Int.reduceLT, Int.reduceLE, Nat.reduceEqDiff, Nat.reduceAdd, Nat.reduceMul, Nat.reduceLT, Nat.reduceLeDiff, Nat.reduceSub, reduceCtorEq, reduceIte, Int.reduceToNat, beq_self_eq_true, Bool.and_self, List.take_length]
    refine hNe _ (VWp.keepR [1,4] [1] tt_ok hF rfl fun Nf hNf => ?_); simp only [go_sem, Int.reduceEq, Int.reduceNe, Int.reduceLT, Int.reduceLE, Nat.reduceEqDiff, Nat.reduceAdd, Nat.reduceMul, Nat.reduceLT, Nat.reduceLeDiff, Nat.reduceSub, reduceCtorEq, reduceIte, Int.reduceToNat, beq_self_eq_true, Bool.and_self, List.take_length]
    refine ⟨by first | omega | (simp; omega), by first | omega | (simp; omega), by first | omega | (simp; omega), ?_⟩
    refine hNf _ (VWp.keep [1,4,5] [1] ?_); simp only [go_sem, Int.reduceEq, Int.reduceNe, Int.reduceLT, Int.reduceLE, Nat.reduceEqDiff, Nat.reduceAdd, Nat.reduceMul, Nat.reduceLT, Nat.reduceLeDiff, Nat.reduceSub, reduceCtorEq, reduceIte, Int.reduceToNat, beq_self_eq_true, Bool.and_self, List.take_length]
    refine vwp_seq_k fun Ng hNg => ?_
    refine vwp_seq_k fun Nh hNh => vreg tt_ok hF rfl ?_; simp only [go_sem, Int.reduceEq, Int.reduceNe, Int.reduceLT, Int.reduceLE, Nat.reduceEqDiff, Nat.reduceAdd, Nat.reduceMul, Nat.reduceLT, Nat.reduceLeDiff, Nat.reduceSub, reduceCtorEq, reduceIte, Int.reduceToNat, beq_self_eq_true, Bool.and_self, List.take_length]
    refine hNh _ (VWp.keep [1,4,5,29,30,31] [1] ?_); simp only [go_sem, Int.reduceEq, Int.reduceNe, Int.reduceLT, Int.reduceLE, Nat.reduceEqDiff, Nat.reduceAdd, Nat.reduceMul, Nat.reduceLT, Nat.reduceLeDiff, Nat.reduceSub, reduceCtorEq, reduceIte, Int.reduceToNat, beq_self_eq_true, Bool.and_self, List.take_length]
    refine VWp.adopt 500000 1 9 (x := 4) rfl rfl (by decide) ?_ (closed_of (by simp only [go_sem, Int.reduceEq, Int.reduceNe, Int.reduceLT, Int.reduceLE, Nat.reduceEqDiff, Nat.reduceAdd, Nat.reduceMul, Nat.reduceLT, Nat.reduceLeDiff, Nat.reduceSub, reduceCtorEq, reduceIte, Int.reduceToNat, beq_self_eq_true, Bool.and_self, List.take_length]) (by simp only [go_sem, Int.reduceEq, Int.reduceNe, Int.reduceLT, Int.reduceLE, Nat.reduceEqDiff, Nat.reduceAdd, Nat.reduceMul, Nat.reduceLT, Nat.reduceLeDiff, Nat.reduceSub, reduceCtorEq, reduceIte, Int.reduceToNat, beq_self_eq_true, Bool.and_self, List.take_length]))
    refine VWp.keep [1,4,5,29,30,31] [1,500000] ?_; simp only [go_sem, Int.reduceEq, Int.reduceNe, Int.reduceLT, Int.reduceLE, Nat.reduceEqDiff, Nat.reduceAdd, Nat.reduceMul, Nat.reduceLT, Nat.reduceLeDiff, Nat.reduceSub, reduceCtorEq, reduceIte, Int.reduceToNat, beq_self_eq_true, Bool.and_self, List.take_length]
    obtain ⟨R, hR⟩ : ∃ R, rowsJ 0 ([47, 47] ++ name ++ 32 :: op) params = R := ⟨_, rfl⟩
    rw [hR] at hRV
    refine vwp_block (vloop (fun z : Nat × Jb × List Jb => [(1, .ptr 1 0), (4, .own 500000 z.2.2.length), (5, .str z.2.1), (29, prmsV params), (30, .int .i64 (params.length : Int)), (31, .int .i64 (z.1 : Int))])
      (fun z => [(1, .box 34 (stmC ⟨line, name, op, params, data⟩)), (500000, .arr 1 9 (z.2.2.map fun w => [V.str w]))])
      (fun z => z.1 ≤ params.length ∧ z.2.2.length ≤ z.1 ∧ (z.2.1.length ≤ 3000000 ∧ (z.1 = 0 → z.2.1.length ≤ 900000)) ∧ outR z.2.2 (rowsJ z.1 z.2.1 (params.drop z.1)) = R) (fun z => params.length - z.1) (0, [47, 47] ++ name ++ 32 :: op, []) ⟨Nat.zero_le _, Nat.le_refl _, ⟨by simp; omega, fun _ => by simp; omega⟩, by show outR [] (rowsJ 0 ([47, 47] ++ name ++ 32 :: op) (params.drop 0)) = R; rw [List.drop_zero, hR]; cases R <;> rfl⟩ (by simp only [go_sem, Int.reduceEq, Int.reduceNe, Int.reduceLT, Int.reduceLE, Nat.reduceEqDiff, Nat.reduceAdd, Nat.reduceMul, Nat.reduceLT, Nat.reduceLeDiff, Nat.reduceSub, reduceCtorEq, reduceIte, Int.reduceToNat, beq_self_eq_true, Bool.and_self, List.take_length, List.length_map]; try simp [stmC, prmsV, strsV]) ?_)
    rintro ⟨m, ln, out⟩ ⟨m1, m2, ⟨m3, m5⟩, m4⟩
    have m1 : m ≤ params.length := m1
    have m2 : out.length ≤ m := m2
    have m3 : ln.length ≤ 3000000 := m3
    have m5 : m = 0 → ln.length ≤ 900000 := m5
    have m4 : outR out (rowsJ m ln (params.drop m)) = R := m4
    try dsimp only
    simp only [stmC, prmsV, strsV]
    refine vwp_seq_k fun Ni hNi => vreg tt_ok hF rfl ?_; simp only [go_sem, Int.reduceEq, Int.reduceNe, Int.reduceLT, Int.reduceLE, Nat.reduceEqDiff, Nat.reduceAdd, Nat.reduceMul, Nat.reduceLT, Nat.reduceLeDiff, Nat.reduceSub, reduceCtorEq, reduceIte, Int.reduceToNat, beq_self_eq_true, Bool.and_self, List.take_length]
    refine hNi _ (VWp.keep [1,4,5,29,30,31,32] [1,500000] ?_); simp only [go_sem, Int.reduceEq, Int.reduceNe, Int.reduceLT, Int.reduceLE, Nat.reduceEqDiff, Nat.reduceAdd, Nat.reduceMul, Nat.reduceLT, Nat.reduceLeDiff, Nat.reduceSub, reduceCtorEq, reduceIte, Int.reduceToNat, beq_self_eq_true, Bool.and_self, List.take_length]
    refine vwp_seq_k fun Nj hNj => ?_
    refine vif rfl ⟨fun ht => ?_, fun hf => ?_⟩
    · have hlt : m < params.length := by have := of_decide_eq_true ht; omega
      obtain ⟨p, hg⟩ : ∃ p, params[m]? = some p := ⟨_, List.getElem?_eq_getElem hlt⟩
      obtain ⟨p1, p2, p3⟩ := hp p (List.mem_of_getElem? hg)
      have h3 := text_spec p p1 p2 p3
      have hrow : (params.map prmC).getD m [] = [.str p.key, .str p.value, .sl 1 (p.parts.map fun w => [V.str w])] := by simp [hg, prmC, strsV]
      have hpi : (0 : Int) ≤ (m : Int) ∧ (m : Int) < (params.length : Int) := ⟨by omega, by omega⟩
      have hTl : (txtS p).length ≤ 900000 := by
        unfold txtS
        split
        · omega
        · simp; omega
      rw [drop_consP params m hg, rowsJ_cons, word_some] at m4
      have m4 : outR out (if (wordJ p).isSome then (if (params.drop (m + 1)).isEmpty && (txtS p).isEmpty then none
        else if m == 0 then rowsJ (m + 1) (ln ++ 32 :: (if (params.drop (m + 1)).isEmpty then txtS p else txtS p ++ [44])) (params.drop (m + 1))
        else if ln.length + (if (params.drop (m + 1)).isEmpty then txtS p else txtS p ++ [44]).length ≤ 80 then rowsJ (m + 1) (ln ++ (if (params.drop (m + 1)).isEmpty then txtS p else txtS p ++ [44])) (params.drop (m + 1))
        else match rowsJ (m + 1) ([47, 47, 32] ++ (if (params.drop (m + 1)).isEmpty then txtS p else txtS p ++ [44])) (params.drop (m + 1)) with
          | some r => some (ln :: r)
          | none => none) else none) = R := by
        rw [← m4]
        cases (wordJ p).isSome <;> rfl
      have hdl : (params.drop (m + 1)).length = params.length - (m + 1) := List.length_drop
      have hw : IntKind.i64.wrap ((params.length : Int) - 1) = ((params.length - 1 : Nat) : Int) := by rw [wrap_i64 (by omega) (by omega)]; omega
      have e1 : decide ((m : Int) = ((params.length - 1 : Nat) : Int)) = (params.drop (m + 1)).isEmpty := by
        rw [Bool.eq_iff_iff, decide_eq_true_iff, List.isEmpty_iff, ← List.length_eq_zero_iff]
        omega
      have e2 : decide (txtS p = ([] : Jb)) = (txtS p).isEmpty := by cases txtS p <;> simp
      have e3 : decide ((m : Int) = 0) = (m == 0) := by
        by_cases h : m = 0
        · subst h; rfl
        · rw [decide_eq_false (by omega)]; simp [h]
      generalize (wordJ p).isSome = ok at h3 m4
      generalize txtS p = T at h3 m4 e2 hTl
      obtain ⟨ps, hps⟩ : ∃ ps, params.drop (m + 1) = ps := ⟨_, rfl⟩
      rw [hps] at m4 e1
      generalize hlast : ps.isEmpty = last at m4 e1
      generalize T.isEmpty = te at m4 e2
      refine vwp_skip (hNj _ ?_)
      refine vwp_seq_k fun Nk hNk => ?_
      refine vwp_block ?_
      refine vwp_seq_k fun Nl hNl => vreg tt_ok hF rfl ?_; simp only [go_sem, Int.reduceEq, Int.reduceNe, Int.reduceLT, Int.reduceLE, Nat.reduceEqDiff, Nat.reduceAdd, Nat.reduceMul, Nat.reduceLT, Nat.reduceLeDiff, Nat.reduceSub, reduceCtorEq, reduceIte, Int.reduceToNat, beq_self_eq_true, Bool.and_self, List.take_length, List.length_map, hpi, hrow]
      refine hNl _ (VWp.keepR [1,4,5,6,7,29,30,31] [1,7,500000] tt_ok hF rfl fun Nm hNm => ?_); simp only [go_sem, Int.reduceEq, Int.reduceNe, Int.reduceLT, Int.reduceLE, Nat.reduceEqDiff, Nat.reduceAdd, Nat.reduceMul, Nat.reduceLT, Nat.reduceLeDiff, Nat.reduceSub, reduceCtorEq, reduceIte, Int.reduceToNat, beq_self_eq_true, Bool.and_self, List.take_length]
      refine .inl ⟨_, h3, ?_⟩; try simp only [go_sem, Int.reduceEq, Int.reduceNe, Int.reduceLT, Int.reduceLE, Nat.reduceEqDiff, Nat.reduceAdd, Nat.reduceMul, Nat.reduceLT, Nat.reduceLeDiff, Nat.reduceSub, reduceCtorEq, reduceIte, Int.reduceToNat, beq_self_eq_true, Bool.and_self, List.take_length]
      refine hNm _ (VWp.keep [1,4,5,6,8,9,29,30,31] [1,500000] ?_); simp only [go_sem, Int.reduceEq, Int.reduceNe, Int.reduceLT, Int.reduceLE, Nat.reduceEqDiff, Nat.reduceAdd, Nat.reduceMul, Nat.reduceLT, Nat.reduceLeDiff, Nat.reduceSub, reduceCtorEq, reduceIte, Int.reduceToNat, beq_self_eq_true, Bool.and_self, List.take_length]
      refine vwp_seq_k fun Nn hNn => vreg tt_ok hF rfl ?_; simp only [go_sem, Int.reduceEq, Int.reduceNe, Int.reduceLT, Int.reduceLE, Nat.reduceEqDiff, Nat.reduceAdd, Nat.reduceMul, Nat.reduceLT, Nat.reduceLeDiff, Nat.reduceSub, reduceCtorEq, reduceIte, Int.reduceToNat, beq_self_eq_true, Bool.and_self, List.take_length, List.length_map, hw, e1]
      refine hNn _ (VWp.keep [1,4,5,6,8,9,10,29,30,31] [1,500000] ?_); simp only [go_sem, Int.reduceEq, Int.reduceNe, Int.reduceLT, Int.reduceLE, Nat.reduceEqDiff, Nat.reduceAdd, Nat.reduceMul, Nat.reduceLT, Nat.reduceLeDiff, Nat.reduceSub, reduceCtorEq, reduceIte, Int.reduceToNat, beq_self_eq_true, Bool.and_self, List.take_length]
      refine vwp_seq_k fun No hNo => ?_
      refine vmeet (fun z : Bool => [(1, .ptr 1 0), (4, .own 500000 out.length), (5, .str ln), (6, .int .i64 (m : Int)), (8, .str T), (10, .bool last), (29, prmsV params), (30, .int .i64 (params.length : Int)), (31, .int .i64 (m : Int)), (55, .bool z)]) (fun _ => [(1, .box 34 (stmC ⟨line, name, op, params, data⟩)), (500000, .arr 1 9 (out.map fun w => [V.str w]))]) (fun z => z = (!ok || (last && te))) ?_ ?_
      · cases ok
        · cases last
          all_goals
            refine vreg tt_ok hF rfl ?_; simp only [go_sem, Int.reduceEq, Int.reduceNe, Int.reduceLT, Int.reduceLE, Nat.reduceEqDiff, Nat.reduceAdd, Nat.reduceMul, Nat.reduceLT, Nat.reduceLeDiff, Nat.reduceSub, reduceCtorEq, reduceIte, Int.reduceToNat, beq_self_eq_true, Bool.and_self, List.take_length, e2]
            exact ⟨true, by simp, by simp [stmC, prmsV, strsV]⟩
        · cases last
          · refine vreg tt_ok hF rfl ?_; simp only [go_sem, Int.reduceEq, Int.reduceNe, Int.reduceLT, Int.reduceLE, Nat.reduceEqDiff, Nat.reduceAdd, Nat.reduceMul, Nat.reduceLT, Nat.reduceLeDiff, Nat.reduceSub, reduceCtorEq, reduceIte, Int.reduceToNat, beq_self_eq_true, Bool.and_self, List.take_length, e2]
            exact ⟨false, by simp, by simp [stmC, prmsV, strsV]⟩
          · refine vreg tt_ok hF rfl ?_; simp only [go_sem, Int.reduceEq, Int.reduceNe, Int.reduceLT, Int.reduceLE, Nat.reduceEqDiff, Nat.reduceAdd, Nat.reduceMul, Nat.reduceLT, Nat.reduceLeDiff, Nat.reduceSub, reduceCtorEq, reduceIte, Int.reduceToNat, beq_self_eq_true, Bool.and_self, List.take_length, e2]
            exact ⟨te, by simp, by simp [stmC, prmsV, strsV]⟩
      intro y hy
      simp only [stmC, prmsV, strsV]
      refine vif rfl ⟨fun ht => ?_, fun hf => ?_⟩
      · have hRn : R = none := by
          rw [← m4]
          rw [ht] at hy
          cases ok
          · rfl
          · have hlt : (last && te) = true := by simpa using hy.symm
            simp only [if_true, hlt]; rfl
        rw [hRn] at hRV
        subst hRV
        refine vwp_seq_k fun Nq hNq => vreg tt_ok hF rfl ?_; simp only [go_sem, Int.reduceEq, Int.reduceNe, Int.reduceLT, Int.reduceLE, Nat.reduceEqDiff, Nat.reduceAdd, Nat.reduceMul, Nat.reduceLT, Nat.reduceLeDiff, Nat.reduceSub, reduceCtorEq, reduceIte, Int.reduceToNat, beq_self_eq_true, Bool.and_self, List.take_length]
        refine hNq _ (VWp.keep [2,3] [] ?_); simp only [go_sem, Int.reduceEq, Int.reduceNe, Int.reduceLT, Int.reduceLE, Nat.reduceEqDiff, Nat.reduceAdd, Nat.reduceMul, Nat.reduceLT, Nat.reduceLeDiff, Nat.reduceSub, reduceCtorEq, reduceIte, Int.reduceToNat, beq_self_eq_true, Bool.and_self, List.take_length]
        refine vwp_ret ?_
        simp only [go_sem, Int.reduceEq, Int.reduceNe, Int.reduceLT, Int.reduceLE, Nat.reduceEqDiff, Nat.reduceAdd, Nat.reduceMul, Nat.reduceLT, Nat.reduceLeDiff, Nat.reduceSub, reduceCtorEq, reduceIte, Int.reduceToNat, beq_self_eq_true, Bool.and_self, List.take_length]
        exact LeV.tup ⟨LeV.nil 1, LeV.refl _, trivial⟩
      · have hok : ok = true ∧ (last && te) = false := by
          rw [hf] at hy
          revert hy; cases ok <;> cases last <;> cases te <;> simp
        obtain ⟨rfl, hlt2⟩ := hok
        simp only [if_true, hlt2, Bool.false_eq_true, if_false] at m4
        refine vwp_skip (hNo _ ?_)
        obtain ⟨T2, hT2⟩ : ∃ T2, (if last = true then T else T ++ [44]) = T2 := ⟨_, rfl⟩
        rw [hT2] at m4
        have hT2l : T2.length ≤ 900001 := by
          rw [← hT2]
          split
          · omega
          · rw [List.length_append, List.length_singleton]; omega
        refine vmeet (fun _ : Unit => [(1, .ptr 1 0), (4, .own 500000 out.length), (5, .str ln), (6, .int .i64 (m : Int)), (8, .str T2), (29, prmsV params), (30, .int .i64 (params.length : Int)), (31, .int .i64 (m : Int))]) (fun _ => [(1, .box 34 (stmC ⟨line, name, op, params, data⟩)), (500000, .arr 1 9 (out.map fun w => [V.str w]))]) (fun _ => True) ?_ ?_
        · cases last
          · rw [if_neg (by decide)] at hT2
            refine vwp_seq_k fun Ns hNs => vreg tt_ok hF rfl ?_; simp only [go_sem, Int.reduceEq, Int.reduceNe, Int.reduceLT, Int.reduceLE, Nat.reduceEqDiff, Nat.reduceAdd, Nat.reduceMul, Nat.reduceLT, Nat.reduceLeDiff, Nat.reduceSub, reduceCtorEq, reduceIte, Int.reduceToNat, beq_self_eq_true, Bool.and_self, List.take_length]
            refine hNs _ (VWp.keep [1,4,5,6,8,29,30,31,57] [1,500000] ?_); simp only [go_sem, Int.reduceEq, Int.reduceNe, Int.reduceLT, Int.reduceLE, Nat.reduceEqDiff, Nat.reduceAdd, Nat.reduceMul, Nat.reduceLT, Nat.reduceLeDiff, Nat.reduceSub, reduceCtorEq, reduceIte, Int.reduceToNat, beq_self_eq_true, Bool.and_self, List.take_length]
            refine vif rfl ⟨fun ht => ?_, fun hf => (by cases hf)⟩
            refine vreg tt_ok hF rfl ?_; simp only [go_sem, Int.reduceEq, Int.reduceNe, Int.reduceLT, Int.reduceLE, Nat.reduceEqDiff, Nat.reduceAdd, Nat.reduceMul, Nat.reduceLT, Nat.reduceLeDiff, Nat.reduceSub, reduceCtorEq, reduceIte, Int.reduceToNat, beq_self_eq_true, Bool.and_self, List.take_length]
            first | (refine ⟨by first | omega | (simp; omega), ?_⟩) | skip
            exact ⟨(), by simp [← hT2, stmC, prmsV, strsV]⟩
          · rw [if_pos rfl] at hT2
            refine vwp_seq_k fun Ns hNs => vreg tt_ok hF rfl ?_; simp only [go_sem, Int.reduceEq, Int.reduceNe, Int.reduceLT, Int.reduceLE, Nat.reduceEqDiff, Nat.reduceAdd, Nat.reduceMul, Nat.reduceLT, Nat.reduceLeDiff, Nat.reduceSub, reduceCtorEq, reduceIte, Int.reduceToNat, beq_self_eq_true, Bool.and_self, List.take_length]
            refine hNs _ (VWp.keep [1,4,5,6,8,29,30,31,57] [1,500000] ?_); simp only [go_sem, Int.reduceEq, Int.reduceNe, Int.reduceLT, Int.reduceLE, Nat.reduceEqDiff, Nat.reduceAdd, Nat.reduceMul, Nat.reduceLT, Nat.reduceLeDiff, Nat.reduceSub, reduceCtorEq, reduceIte, Int.reduceToNat, beq_self_eq_true, Bool.and_self, List.take_length]
            refine vif rfl ⟨fun ht => (by cases ht), fun hf => ?_⟩
            refine vwp_skip ?_
            simp only [go_sem, Int.reduceEq, Int.reduceNe, Int.reduceLT, Int.reduceLE, Nat.reduceEqDiff, Nat.reduceAdd, Nat.reduceMul, Nat.reduceLT, Nat.reduceLeDiff, Nat.reduceSub, reduceCtorEq, reduceIte, Int.reduceToNat, beq_self_eq_true, Bool.and_self, List.take_length]
            exact ⟨(), by simp [← hT2, stmC, prmsV, strsV]⟩
        intro _ _
        simp only [stmC, prmsV, strsV]
        refine vwp_block ?_
        refine vwp_seq_k fun Nt hNt => vreg tt_ok hF rfl ?_; simp only [go_sem, Int.reduceEq, Int.reduceNe, Int.reduceLT, Int.reduceLE, Nat.reduceEqDiff, Nat.reduceAdd, Nat.reduceMul, Nat.reduceLT, Nat.reduceLeDiff, Nat.reduceSub, reduceCtorEq, reduceIte, Int.reduceToNat, beq_self_eq_true, Bool.and_self, List.take_length, e3]
        refine hNt _ (VWp.keep [1,4,5,8,29,30,31,66] [1,500000] ?_); simp only [go_sem, Int.reduceEq, Int.reduceNe, Int.reduceLT, Int.reduceLE, Nat.reduceEqDiff, Nat.reduceAdd, Nat.reduceMul, Nat.reduceLT, Nat.reduceLeDiff, Nat.reduceSub, reduceCtorEq, reduceIte, Int.reduceToNat, beq_self_eq_true, Bool.and_self, List.take_length]
        cases hm0 : (m == 0)
        · rw [hm0] at m4
          simp only [Bool.false_eq_true, if_false] at m4
          refine vif rfl ⟨fun ht => (by cases ht), fun hf => ?_⟩
          have hwl : IntKind.i64.wrap ((ln.length : Int) + (T2.length : Int)) = ((ln.length + T2.length : Nat) : Int) := by rw [wrap_i64 (by omega) (by omega)]; rfl
          have e4 : decide (((ln.length + T2.length : Nat) : Int) ≤ 80) = decide (ln.length + T2.length ≤ 80) := by apply decide_eq_decide.2; omega
          refine vwp_seq_k fun Nu hNu => vreg tt_ok hF rfl ?_; simp only [go_sem, Int.reduceEq, Int.reduceNe, Int.reduceLT, Int.reduceLE, Nat.reduceEqDiff, Nat.reduceAdd, Nat.reduceMul, Nat.reduceLT, Nat.reduceLeDiff, Nat.reduceSub, reduceCtorEq, reduceIte, Int.reduceToNat, beq_self_eq_true, Bool.and_self, List.take_length, hwl, e4]
          refine hNu _ (VWp.keep [1,4,5,8,29,30,31,73] [1,500000] ?_); simp only [go_sem, Int.reduceEq, Int.reduceNe, Int.reduceLT, Int.reduceLE, Nat.reduceEqDiff, Nat.reduceAdd, Nat.reduceMul, Nat.reduceLT, Nat.reduceLeDiff, Nat.reduceSub, reduceCtorEq, reduceIte, Int.reduceToNat, beq_self_eq_true, Bool.and_self, List.take_length]
          refine vif rfl ⟨fun ht => ?_, fun hf => ?_⟩
          · have hle := of_decide_eq_true ht
            rw [if_pos hle] at m4
            refine vreg tt_ok hF rfl ?_; simp only [go_sem, Int.reduceEq, Int.reduceNe, Int.reduceLT, Int.reduceLE, Nat.reduceEqDiff, Nat.reduceAdd, Nat.reduceMul, Nat.reduceLT, Nat.reduceLeDiff, Nat.reduceSub, reduceCtorEq, reduceIte, Int.reduceToNat, beq_self_eq_true, Bool.and_self, List.take_length]
            first | (refine ⟨by first | omega | (simp; omega), ?_⟩) | skip
            refine hNk _ (VWp.keep [1,4,5,29,30,31] [1,500000] ?_); simp only [go_sem, Int.reduceEq, Int.reduceNe, Int.reduceLT, Int.reduceLE, Nat.reduceEqDiff, Nat.reduceAdd, Nat.reduceMul, Nat.reduceLT, Nat.reduceLeDiff, Nat.reduceSub, reduceCtorEq, reduceIte, Int.reduceToNat, beq_self_eq_true, Bool.and_self, List.take_length]
            refine vreg tt_ok hF rfl ?_; simp only [go_sem, Int.reduceEq, Int.reduceNe, Int.reduceLT, Int.reduceLE, Nat.reduceEqDiff, Nat.reduceAdd, Nat.reduceMul, Nat.reduceLT, Nat.reduceLeDiff, Nat.reduceSub, reduceCtorEq, reduceIte, Int.reduceToNat, beq_self_eq_true, Bool.and_self, List.take_length]
            rw [wrap_i64 (by omega) (by omega)]
            exact ⟨(m + 1, ln ++ T2, out), ⟨by simp only; omega, by simp only; omega, ⟨by simp only [List.length_append]; omega, fun h => by simp only at h; omega⟩, by show outR out (rowsJ (m + 1) (ln ++ T2) (params.drop (m + 1))) = R; rw [hps]; exact m4⟩, by simp only; omega, by simp [stmC, prmsV, strsV]⟩
          · have hle := of_decide_eq_false hf
            rw [if_neg hle] at m4
            refine vwp_seq_k fun Nv hNv => vreg tt_ok hF rfl ?_; simp only [go_sem, Int.reduceEq, Int.reduceNe, Int.reduceLT, Int.reduceLE, Nat.reduceEqDiff, Nat.reduceAdd, Nat.reduceMul, Nat.reduceLT, Nat.reduceLeDiff, Nat.reduceSub, reduceCtorEq, reduceIte, Int.reduceToNat, beq_self_eq_true, Bool.and_self, List.take_length]
            first | (refine ⟨by first | omega | (simp; omega), ?_⟩) | skip
            refine hNv _ (VWp.keep [1,4,8,29,30,31] [1,500000] ?_); simp only [go_sem, Int.reduceEq, Int.reduceNe, Int.reduceLT, Int.reduceLE, Nat.reduceEqDiff, Nat.reduceAdd, Nat.reduceMul, Nat.reduceLT, Nat.reduceLeDiff, Nat.reduceSub, reduceCtorEq, reduceIte, Int.reduceToNat, beq_self_eq_true, Bool.and_self, List.take_length]
            refine vreg tt_ok hF rfl ?_; simp only [go_sem, Int.reduceEq, Int.reduceNe, Int.reduceLT, Int.reduceLE, Nat.reduceEqDiff, Nat.reduceAdd, Nat.reduceMul, Nat.reduceLT, Nat.reduceLeDiff, Nat.reduceSub, reduceCtorEq, reduceIte, Int.reduceToNat, beq_self_eq_true, Bool.and_self, List.take_length]
            first | (refine ⟨by first | omega | (simp; omega), ?_⟩) | skip
            refine hNk _ (VWp.keep [1,4,5,29,30,31] [1,500000] ?_); simp only [go_sem, Int.reduceEq, Int.reduceNe, Int.reduceLT, Int.reduceLE, Nat.reduceEqDiff, Nat.reduceAdd, Nat.reduceMul, Nat.reduceLT, Nat.reduceLeDiff, Nat.reduceSub, reduceCtorEq, reduceIte, Int.reduceToNat, beq_self_eq_true, Bool.and_self, List.take_length]
            refine vreg tt_ok hF rfl ?_; simp only [go_sem, Int.reduceEq, Int.reduceNe, Int.reduceLT, Int.reduceLE, Nat.reduceEqDiff, Nat.reduceAdd, Nat.reduceMul, Nat.reduceLT, Nat.reduceLeDiff, Nat.reduceSub, reduceCtorEq, reduceIte, Int.reduceToNat, beq_self_eq_true, Bool.and_self, List.take_length]
            rw [wrap_i64 (by omega) (by omega)]
            refine ⟨(m + 1, [47, 47, 32] ++ T2, out ++ [ln]), ⟨by simp only; omega, by simp; omega, ⟨by simp only [List.length_append, List.length_cons, List.length_nil]; omega, fun h => by simp only at h; omega⟩, ?_⟩, by simp only; omega, by simp [stmC, prmsV, strsV]⟩
            show outR (out ++ [ln]) (rowsJ (m + 1) ([47, 47, 32] ++ T2) (params.drop (m + 1))) = R
            rw [hps, ← m4]
            generalize rowsJ (m + 1) ([47, 47, 32] ++ T2) ps = QR
            cases QR <;> simp [outR]
        · rw [hm0] at m4
          simp only [if_true] at m4
          have hm00 : m = 0 := by simpa using hm0
          refine vif rfl ⟨fun ht => ?_, fun hf => (by cases hf)⟩
          refine vreg tt_ok hF rfl ?_; simp only [go_sem, Int.reduceEq, Int.reduceNe, Int.reduceLT, Int.reduceLE, Nat.reduceEqDiff, Nat.reduceAdd, Nat.reduceMul, Nat.reduceLT, Nat.reduceLeDiff, Nat.reduceSub, reduceCtorEq, reduceIte, Int.reduceToNat, beq_self_eq_true, Bool.and_self, List.take_length]
          first | (refine ⟨by first | omega | (simp; omega), by first | omega | (simp; omega), ?_⟩) | (refine ⟨by first | omega | (simp; omega), ?_⟩) | skip
          refine hNk _ (VWp.keep [1,4,5,29,30,31] [1,500000] ?_); simp only [go_sem, Int.reduceEq, Int.reduceNe, Int.reduceLT, Int.reduceLE, Nat.reduceEqDiff, Nat.reduceAdd, Nat.reduceMul, Nat.reduceLT, Nat.reduceLeDiff, Nat.reduceSub, reduceCtorEq, reduceIte, Int.reduceToNat, beq_self_eq_true, Bool.and_self, List.take_length]
          refine vreg tt_ok hF rfl ?_; simp only [go_sem, Int.reduceEq, Int.reduceNe, Int.reduceLT, Int.reduceLE, Nat.reduceEqDiff, Nat.reduceAdd, Nat.reduceMul, Nat.reduceLT, Nat.reduceLeDiff, Nat.reduceSub, reduceCtorEq, reduceIte, Int.reduceToNat, beq_self_eq_true, Bool.and_self, List.take_length]
          rw [wrap_i64 (by omega) (by omega)]
          exact ⟨(m + 1, ln ++ 32 :: T2, out), ⟨by simp only; omega, by simp only; omega, ⟨by have := m5 hm00; simp only [List.length_append, List.length_cons]; omega, fun h => by simp only at h; omega⟩, by show outR out (rowsJ (m + 1) (ln ++ 32 :: T2) (params.drop (m + 1))) = R; rw [hps]; exact m4⟩, by simp only; omega, by simp [stmC, prmsV, strsV]⟩
    · have hm : m = params.length := by have := of_decide_eq_false hf; omega
      subst hm
      rw [List.drop_length] at m4
      have m4 : some (out ++ [ln]) = R := m4
      subst m4
      have hRV : V.tup [strsV (out ++ [ln]), .bool ((out ++ [ln]).all fun t => decide (t.length ≤ 80))] = RV := hRV
      have h4 := ContainsFunc_0 28 (fun t => !decide (t.length ≤ 80)) (out ++ [ln]) (by simp; omega) (fun x _ => render1_spec x)
      have hall : ((out ++ [ln]).all fun t => decide (t.length ≤ 80)) = !((out ++ [ln]).any fun t => !decide (t.length ≤ 80)) := by
        rw [List.not_any_eq_all_not]
        simp
      rw [hall] at hRV
      generalize ((out ++ [ln]).any fun t => !decide (t.length ≤ 80)) = bb at h4 hRV
      refine vwp_exit ?_
      simp only [go_sem, Int.reduceEq, Int.reduceNe, Int.reduceLT, Int.reduceLE, Nat.reduceEqDiff, Nat.reduceAdd, Nat.reduceMul, Nat.reduceLT, Nat.reduceLeDiff, Nat.reduceSub, reduceCtorEq, reduceIte, Int.reduceToNat, beq_self_eq_true, Bool.and_self, List.take_length]
      refine hNg _ (VWp.keepR [4,5] [500000] tt_ok hF rfl fun Nw hNw => ?_); simp only [go_sem, Int.reduceEq, Int.reduceNe, Int.reduceLT, Int.reduceLE, Nat.reduceEqDiff, Nat.reduceAdd, Nat.reduceMul, Nat.reduceLT, Nat.reduceLeDiff, Nat.reduceSub, reduceCtorEq, reduceIte, Int.reduceToNat, beq_self_eq_true, Bool.and_self, List.take_length]
      first | (refine ⟨by first | omega | (simp; omega), ?_⟩) | skip
      refine hNw _ (VWp.keep [4] [500000] ?_); simp only [go_sem, Int.reduceEq, Int.reduceNe, Int.reduceLT, Int.reduceLE, Nat.reduceEqDiff, Nat.reduceAdd, Nat.reduceMul, Nat.reduceLT, Nat.reduceLeDiff, Nat.reduceSub, reduceCtorEq, reduceIte, Int.reduceToNat, beq_self_eq_true, Bool.and_self, List.take_length]
      have h4 : Spec Tryz.prog 27 [.sl 1 ((out.map fun w => [V.str w]) ++ [[V.str ln]]), .fn (.func 28) []] (.bool bb) := by
        have := h4; simp only [strsV, List.map_append, List.map_cons, List.map_nil] at this; exact this
      refine vwp_seq_k fun Nx hNx => vreg tt_ok hF rfl ?_; simp only [go_sem, Int.reduceEq, Int.reduceNe, Int.reduceLT, Int.reduceLE, Nat.reduceEqDiff, Nat.reduceAdd, Nat.reduceMul, Nat.reduceLT, Nat.reduceLeDiff, Nat.reduceSub, reduceCtorEq, reduceIte, Int.reduceToNat, beq_self_eq_true, Bool.and_self, List.take_length]
      refine .inl ⟨_, h4, ?_⟩; try simp only [go_sem, Int.reduceEq, Int.reduceNe, Int.reduceLT, Int.reduceLE, Nat.reduceEqDiff, Nat.reduceAdd, Nat.reduceMul, Nat.reduceLT, Nat.reduceLeDiff, Nat.reduceSub, reduceCtorEq, reduceIte, Int.reduceToNat, beq_self_eq_true, Bool.and_self, List.take_length]
      refine hNx _ (VWp.keep [2,3] [500000] ?_); simp only [go_sem, Int.reduceEq, Int.reduceNe, Int.reduceLT, Int.reduceLE, Nat.reduceEqDiff, Nat.reduceAdd, Nat.reduceMul, Nat.reduceLT, Nat.reduceLeDiff, Nat.reduceSub, reduceCtorEq, reduceIte, Int.reduceToNat, beq_self_eq_true, Bool.and_self, List.take_length]
      refine vwp_ret ?_
      simp only [go_sem, Int.reduceEq, Int.reduceNe, Int.reduceLT, Int.reduceLE, Nat.reduceEqDiff, Nat.reduceAdd, Nat.reduceMul, Nat.reduceLT, Nat.reduceLeDiff, Nat.reduceSub, reduceCtorEq, reduceIte, Int.reduceToNat, beq_self_eq_true, Bool.and_self, List.take_length]
      rw [← hRV]
      exact LeV.of_eq (by simp [strsV])
end Go.Proofs.YtnaljgmcpagbbaaGreatDoor
