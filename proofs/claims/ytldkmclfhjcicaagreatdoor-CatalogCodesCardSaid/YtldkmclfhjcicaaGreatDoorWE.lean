import Derived.Outline
import Derived.Test.YtldkmclfhjcicaaGreatDoorWD
/- The reference's Add. -/
namespace Go.Proofs.YtldkmclfhjcicaaGreatDoor
open Go.RowKit
set_option linter.unusedVariables false
set_option linter.unusedSimpArgs false
def addG (c : Cat) (e : Ent) : Option Grp → List Ent × List Ent
  | none => ([], insE e c.es)
  | some g => if ((gensS c.es g.base).length : Int) = g.limit then ([(gensS c.es g.base).headD default], dropE ((gensS c.es g.base).headD default).name (insE e c.es)) else ([], insE e c.es)
def addP1 (e : Ent) (g : Grp) : Bool := decide (0 < numS g.base e.name)
theorem addC_1 {c : Cat} {e : Ent} (h : (validC c && entOk e) = false) : addC c e = (⟨[], []⟩, [], 1) := by unfold addC; rw [h]; rfl
theorem addC_4 {c : Cat} {e : Ent} (h : (validC c && entOk e) = true) (hn : e.name ∈ namesS c.es ∨ e.name ∈ basesS c.gs) : addC c e = (⟨[], []⟩, [], 4) := by unfold addC; rw [h, if_neg (by simp), if_pos hn]
theorem addC_6 {c : Cat} {e : Ent} (h : (validC c && entOk e) = true) (hn : ¬ (e.name ∈ namesS c.es ∨ e.name ∈ basesS c.gs)) {g : Grp} (hg : c.gs.find? (addP1 e) = some g) (h6 : numS g.base e.name ≤ (numsS c.es g.base).getLastD 0) : addC c e = (⟨[], []⟩, [], 6) := by
  unfold addC; unfold addP1 at hg; rw [h, if_neg (by simp), if_neg hn, hg]; simp only; rw [if_pos (decide_eq_true h6)]
theorem addC_0 {c : Cat} {e : Ent} (h : (validC c && entOk e) = true) (hn : ¬ (e.name ∈ namesS c.es ∨ e.name ∈ basesS c.gs))
    (h6 : ∀ g, c.gs.find? (addP1 e) = some g → ¬ numS g.base e.name ≤ (numsS c.es g.base).getLastD 0) {gone es : List Ent} (ha : addG c e (c.gs.find? (addP1 e)) = (gone, es)) :
    addC c e = if 256 < es.length then (⟨[], []⟩, [], 7) else (⟨es, c.gs⟩, gone, 0) := by
  have hv := (Bool.and_eq_true_iff.1 h).1
  have hlen := length_insE e c.es
  cases hf : c.gs.find? (addP1 e) with
  | none =>
    rw [hf] at ha; cases ha
    unfold addC; unfold addP1 at hf; rw [h, if_neg (by simp), if_neg hn, hf]; simp only
    rw [hlen]
  | some g =>
    have h6 := h6 g hf
    rw [hf] at ha
    unfold addC; unfold addP1 at hf; rw [h, if_neg (by simp), if_neg hn, hf]; simp only
    rw [if_neg (by simpa using h6)]
    unfold addG at ha
    simp only at ha
    by_cases hl : ((gensS c.es g.base).length : Int) = g.limit
    · rw [if_pos hl] at ha ⊢
      cases ha
      have hgm := List.mem_of_find?_eq_some hf
      have hgo := (validC_all hv).2.2.2.2.1
      rw [List.all_eq_true] at hgo
      have := (grpOk_parts (hgo g hgm)).2.2.1
      have hh : (gensS c.es g.base).headD default ∈ gensS c.es g.base := by
        cases hz : gensS c.es g.base with
        | nil => rw [hz] at hl; simp at hl; omega
        | cons a t => simp
      have hne : ((gensS c.es g.base).headD default).name ∈ namesS (insE e c.es) := names_insE.2 (.inr (List.mem_map.2 ⟨_, (mem_gensS.1 hh).1, rfl⟩))
      have hasc := asc_insE e c.es (validC_all hv).2.2.2.1 (fun q => hn (.inl q))
      have h3 := length_dropE _ _ hasc hne
      have := (validC_all hv).1
      rw [if_neg (by omega)]
      rfl
    · rw [if_neg hl] at ha ⊢
      cases ha
      rw [hlen]
theorem addG_n1 (c : Cat) (e : Ent) : (addG c e none).1 = [] := rfl
theorem addG_n2 (c : Cat) (e : Ent) : (addG c e none).2 = insE e c.es := rfl
theorem find_step {α : Type} {p : α → Bool} {l : List α} {k : Nat} {x : α} (h : l[k]? = some x) : (l.take (k + 1)).find? p = ((l.take k).find? p).or (if p x then some x else none) := by
  have hk : k < l.length := (List.getElem?_eq_some_iff.1 h).1
  rw [List.take_succ_eq_append_getElem hk, List.find?_append]
  have : l[k] = x := (List.getElem?_eq_some_iff.1 h).2
  rw [this]
  cases (l.take k).find? p <;> simp [List.find?] <;> split <;> simp_all
theorem one_base {c : Cat} {e : Ent} (hv : validC c = true) {k : Nat} {x : Grp} (hx : c.gs[k]? = some x) (hp : addP1 e x = true) : (c.gs.take k).find? (addP1 e) = none := by
  rw [List.find?_eq_none]
  intro g hg hpg
  obtain ⟨j, hj⟩ := List.mem_iff_getElem?.1 hg
  have hjk : j < k := by
    have := (List.getElem?_eq_some_iff.1 hj).1
    simp at this; omega
  have hjg : c.gs[j]? = some g := by rw [List.getElem?_take] at hj; simpa [hjk] using hj
  have he : g.base = x.base := by
    unfold addP1 at hp hpg
    exact numS_one (n := e.name) (by have := of_decide_eq_true hpg; omega) (by have := of_decide_eq_true hp; omega)
  have ha := (validC_all hv).2.2.2.2.2.1
  have hlt : g.base < x.base := by
    have : asc (basesS (c.gs.drop j)) = true := asc_sub (List.Sublist.map _ (List.drop_sublist j c.gs)) ha
    have hd : c.gs.drop j = g :: c.gs.drop (j + 1) := by
      have hlt := (List.getElem?_eq_some_iff.1 hjg).1
      rw [List.drop_eq_getElem_cons hlt, (List.getElem?_eq_some_iff.1 hjg).2]
    rw [hd] at this
    refine asc_head (t := basesS (c.gs.drop (j + 1))) this x.base (List.mem_map.2 ⟨x, ?_, rfl⟩)
    refine List.mem_of_getElem? (i := k - (j + 1)) ?_
    rw [List.getElem?_drop, show j + 1 + (k - (j + 1)) = k by omega]; exact hx
  exact lt_ne hlt he
theorem head_at {es : List Ent} {b : Bs} (h : 0 < (gensS es b).length) : (gensS es b).getD 0 default = (gensS es b).headD default := by
  cases hz : gensS es b with
  | nil => rw [hz] at h; cases h
  | cons a t => simp
theorem find_full {α : Type} {p : α → Bool} {l : List α} {k : Nat} {x : α} (h : l[k]? = some x) (h0 : (l.take k).find? p = none) (hp : p x = true) : l.find? p = some x := by
  have hk : k < l.length := (List.getElem?_eq_some_iff.1 h).1
  have e : l = l.take k ++ x :: l.drop (k + 1) := by
    have : l[k] = x := (List.getElem?_eq_some_iff.1 h).2
    rw [← this, ← List.drop_eq_getElem_cons hk, List.take_append_drop]
  rw [e, List.find?_append, h0]
  simp [List.find?, hp]
theorem le_bad3 (x : V) (hx : x.refs = []) : LeV (.tup [.agg [.nil, .nil], .nil, x]) (.tup [.agg [.sl 4 (List.map entC []), .sl 2 (List.map grpC [])], .sl 4 (List.map entC []), x]) :=
  LeV.tup ⟨LeV.agg ⟨LeV.nil 4, LeV.nil 2, trivial⟩, LeV.nil 4, LeV.refl _, trivial⟩
set_option maxHeartbeats 8000000 in
set_option maxRecDepth 4000 in
theorem rAdd_spec (c : Cat) (e : Ent) (h1 : c.es.length ≤ 1000000) (h2 : c.gs.length ≤ 1000000) : Spec Tryz.prog 27 [catV c, entV e] (.tup [catV (addC c e).1, entsV (addC c e).2.1, .int .i64 (addC c e).2.2]) := by
  refine spec_of tt_ok Tryz.func27 rfl (by decide) Tryz.ntmps27 (congrArg Array.toList Tryz.results27) (by simp) (by decide) rfl rfl (fun F hF => ?_)
  refine vwp_seq_k fun N hN => vreg tt_ok hF rfl ?_; simp only [go_sem, Int.reduceEq, Int.reduceNe, Int.reduceLT, Int.reduceLE, Nat.reduceEqDiff, Nat.reduceAdd, Nat.reduceMul, Nat.reduceLT, Nat.reduceLeDiff, Nat.reduceSub, reduceCtorEq, reduceIte, Int.reduceToNat]
  refine hN _ (VWp.keep [2,3,4] [2,3,4] ?_); simp only [go_sem, Int.reduceEq, Int.reduceNe, Int.reduceLT, Int.reduceLE, Nat.reduceEqDiff, Nat.reduceAdd, Nat.reduceMul, Nat.reduceLT, Nat.reduceLeDiff, Nat.reduceSub, reduceCtorEq, reduceIte, Int.reduceToNat]
  refine vwp_seq_k fun N hN => ?_
  refine vmeet (fun b : Bool => [(2, .ptr 2 0), (3, .ptr 3 0), (4, .ptr 4 0), (23, .bool (!b))]) (fun _ => [(2, .box 31 [.sl 4 (c.es.map entC), .sl 2 (c.gs.map grpC)]), (3, .box 45 [.str e.name, .int .i64 e.unit, .str e.serial, .int .i64 e.file]), (4, .box 31 [.nil, .nil])]) (fun b => (validC c && entOk e) = b) ?_ ?_
  · cases hv : validC c with
    | false =>
      refine vreg tt_ok hF rfl ?_; simp only [go_sem, Int.reduceEq, Int.reduceNe, Int.reduceLT, Int.reduceLE, Nat.reduceEqDiff, Nat.reduceAdd, Nat.reduceMul, Nat.reduceLT, Nat.reduceLeDiff, Nat.reduceSub, reduceCtorEq, reduceIte, Int.reduceToNat]
      refine .inl ⟨_, hv ▸ Valid_spec c h1 h2, ?_⟩
      simp only [go_sem, Int.reduceEq, Int.reduceNe, Int.reduceLT, Int.reduceLE, Nat.reduceEqDiff, Nat.reduceAdd, Nat.reduceMul, Nat.reduceLT, Nat.reduceLeDiff, Nat.reduceSub, reduceCtorEq, reduceIte, Int.reduceToNat]
      exact ⟨false, by simp, by simp⟩
    | true =>
      refine vreg tt_ok hF rfl ?_; simp only [go_sem, Int.reduceEq, Int.reduceNe, Int.reduceLT, Int.reduceLE, Nat.reduceEqDiff, Nat.reduceAdd, Nat.reduceMul, Nat.reduceLT, Nat.reduceLeDiff, Nat.reduceSub, reduceCtorEq, reduceIte, Int.reduceToNat]
      refine .inl ⟨_, hv ▸ Valid_spec c h1 h2, ?_⟩
      simp only [go_sem, Int.reduceEq, Int.reduceNe, Int.reduceLT, Int.reduceLE, Nat.reduceEqDiff, Nat.reduceAdd, Nat.reduceMul, Nat.reduceLT, Nat.reduceLeDiff, Nat.reduceSub, reduceCtorEq, reduceIte, Int.reduceToNat]
      refine .inl ⟨_, entry_spec e, ?_⟩
      simp only [go_sem, Int.reduceEq, Int.reduceNe, Int.reduceLT, Int.reduceLE, Nat.reduceEqDiff, Nat.reduceAdd, Nat.reduceMul, Nat.reduceLT, Nat.reduceLeDiff, Nat.reduceSub, reduceCtorEq, reduceIte, Int.reduceToNat]
      exact ⟨entOk e, by simp, by simp⟩
  intro b hb
  cases b with
  | false =>
    refine vif rfl ⟨fun ht => ?_, fun hf => (by cases hf)⟩
    refine vwp_seq_k fun Nb hNb => vreg tt_ok hF rfl ?_; simp only [go_sem, Int.reduceEq, Int.reduceNe, Int.reduceLT, Int.reduceLE, Nat.reduceEqDiff, Nat.reduceAdd, Nat.reduceMul, Nat.reduceLT, Nat.reduceLeDiff, Nat.reduceSub, reduceCtorEq, reduceIte, Int.reduceToNat]
    refine hNb _ (vwp_ret ?_)
    simp only [go_sem, Int.reduceEq, Int.reduceNe, Int.reduceLT, Int.reduceLE, Nat.reduceEqDiff, Nat.reduceAdd, Nat.reduceMul, Nat.reduceLT, Nat.reduceLeDiff, Nat.reduceSub, reduceCtorEq, reduceIte, Int.reduceToNat]
    rw [addC_1 hb]
    exact le_bad3 _ rfl
  | true =>
    refine vif rfl ⟨fun hf => (by cases hf), fun _ => ?_⟩
    obtain ⟨hv, hg⟩ := Bool.and_eq_true_iff.1 hb
    refine vwp_skip (hN _ ?_)
    refine vwp_seq_k fun N hN => ?_
    refine vmeet (fun b : Bool => [(2, .ptr 2 0), (3, .ptr 3 0), (4, .ptr 4 0), (36, .bool b)]) (fun _ => [(2, .box 31 [.sl 4 (c.es.map entC), .sl 2 (c.gs.map grpC)]), (3, .box 45 [.str e.name, .int .i64 e.unit, .str e.serial, .int .i64 e.file]), (4, .box 31 [.nil, .nil])]) (fun b => decide (e.name ∈ namesS c.es ∨ e.name ∈ basesS c.gs) = b) ?_ ?_
    · by_cases hm : e.name ∈ namesS c.es
      · have fm : decide (0 ≤ fIdx (namesS c.es) e.name) = true := decide_eq_true ((fIdx_nonneg _ _).2 hm)
        refine vreg tt_ok hF rfl ?_; simp only [go_sem, Int.reduceEq, Int.reduceNe, Int.reduceLT, Int.reduceLE, Nat.reduceEqDiff, Nat.reduceAdd, Nat.reduceMul, Nat.reduceLT, Nat.reduceLeDiff, Nat.reduceSub, reduceCtorEq, reduceIte, Int.reduceToNat]
        refine .inl ⟨_, find_spec c e.name h1, ?_⟩
        simp only [go_sem, Int.reduceEq, Int.reduceNe, Int.reduceLT, Int.reduceLE, Nat.reduceEqDiff, Nat.reduceAdd, Nat.reduceMul, Nat.reduceLT, Nat.reduceLeDiff, Nat.reduceSub, reduceCtorEq, reduceIte, Int.reduceToNat, fm]
        exact ⟨true, by simp [hm], by simp⟩
      · have fm : decide (0 ≤ fIdx (namesS c.es) e.name) = false := decide_eq_false (fun h => hm ((fIdx_nonneg _ _).1 h))
        have fe : decide (0 ≤ fIdx (basesS c.gs) e.name) = decide (e.name ∈ basesS c.gs) := by simp [fIdx_nonneg]
        refine vreg tt_ok hF rfl ?_; simp only [go_sem, Int.reduceEq, Int.reduceNe, Int.reduceLT, Int.reduceLE, Nat.reduceEqDiff, Nat.reduceAdd, Nat.reduceMul, Nat.reduceLT, Nat.reduceLeDiff, Nat.reduceSub, reduceCtorEq, reduceIte, Int.reduceToNat]
        refine .inl ⟨_, find_spec c e.name h1, ?_⟩
        simp only [go_sem, Int.reduceEq, Int.reduceNe, Int.reduceLT, Int.reduceLE, Nat.reduceEqDiff, Nat.reduceAdd, Nat.reduceMul, Nat.reduceLT, Nat.reduceLeDiff, Nat.reduceSub, reduceCtorEq, reduceIte, Int.reduceToNat, fm]
        refine .inl ⟨_, base_spec c e.name h2, ?_⟩
        simp only [go_sem, Int.reduceEq, Int.reduceNe, Int.reduceLT, Int.reduceLE, Nat.reduceEqDiff, Nat.reduceAdd, Nat.reduceMul, Nat.reduceLT, Nat.reduceLeDiff, Nat.reduceSub, reduceCtorEq, reduceIte, Int.reduceToNat, fe]
        exact ⟨decide (e.name ∈ basesS c.gs), by simp [hm], by simp⟩
    intro b hb4
    cases b with
    | true =>
      refine vif rfl ⟨fun ht => ?_, fun hf => (by cases hf)⟩
      refine vwp_seq_k fun Nb hNb => vreg tt_ok hF rfl ?_; simp only [go_sem, Int.reduceEq, Int.reduceNe, Int.reduceLT, Int.reduceLE, Nat.reduceEqDiff, Nat.reduceAdd, Nat.reduceMul, Nat.reduceLT, Nat.reduceLeDiff, Nat.reduceSub, reduceCtorEq, reduceIte, Int.reduceToNat]
      refine hNb _ (vwp_ret ?_)
      simp only [go_sem, Int.reduceEq, Int.reduceNe, Int.reduceLT, Int.reduceLE, Nat.reduceEqDiff, Nat.reduceAdd, Nat.reduceMul, Nat.reduceLT, Nat.reduceLeDiff, Nat.reduceSub, reduceCtorEq, reduceIte, Int.reduceToNat]
      rw [addC_4 hb (of_decide_eq_true hb4)]
      exact le_bad3 _ rfl
    | false =>
      have hn : ¬ (e.name ∈ namesS c.es ∨ e.name ∈ basesS c.gs) := of_decide_eq_false hb4
      refine vif rfl ⟨fun hf => (by cases hf), fun _ => ?_⟩
      refine vwp_skip (hN _ ?_)
      refine vwp_seq_k fun N hN => vreg tt_ok hF rfl ?_; simp only [go_sem, Int.reduceEq, Int.reduceNe, Int.reduceLT, Int.reduceLE, Nat.reduceEqDiff, Nat.reduceAdd, Nat.reduceMul, Nat.reduceLT, Nat.reduceLeDiff, Nat.reduceSub, reduceCtorEq, reduceIte, Int.reduceToNat]
      refine .inl ⟨_, with_spec c e h1 h2, ?_⟩; try simp only [go_sem, Int.reduceEq, Int.reduceNe, Int.reduceLT, Int.reduceLE, Nat.reduceEqDiff, Nat.reduceAdd, Nat.reduceMul, Nat.reduceLT, Nat.reduceLeDiff, Nat.reduceSub, reduceCtorEq, reduceIte, Int.reduceToNat]
      refine hN _ (VWp.keepR [2,3,4,7] [2,3,4,7] tt_ok hF rfl fun N hN => ?_); simp only [go_sem, Int.reduceEq, Int.reduceNe, Int.reduceLT, Int.reduceLE, Nat.reduceEqDiff, Nat.reduceAdd, Nat.reduceMul, Nat.reduceLT, Nat.reduceLeDiff, Nat.reduceSub, reduceCtorEq, reduceIte, Int.reduceToNat]
      refine hN _ (VWp.keep [2,3,4,7,8] [2,3,4,7] ?_); simp only [go_sem, Int.reduceEq, Int.reduceNe, Int.reduceLT, Int.reduceLE, Nat.reduceEqDiff, Nat.reduceAdd, Nat.reduceMul, Nat.reduceLT, Nat.reduceLeDiff, Nat.reduceSub, reduceCtorEq, reduceIte, Int.reduceToNat]
      refine VWp.adopt 40 4 45 (x := 8) rfl rfl (by decide) ?_ (closed_of (by simp only [go_sem, Int.reduceEq, Int.reduceNe, Int.reduceLT, Int.reduceLE, Nat.reduceEqDiff, Nat.reduceAdd, Nat.reduceMul, Nat.reduceLT, Nat.reduceLeDiff, Nat.reduceSub, reduceCtorEq, reduceIte, Int.reduceToNat]) (by simp only [go_sem, Int.reduceEq, Int.reduceNe, Int.reduceLT, Int.reduceLE, Nat.reduceEqDiff, Nat.reduceAdd, Nat.reduceMul, Nat.reduceLT, Nat.reduceLeDiff, Nat.reduceSub, reduceCtorEq, reduceIte, Int.reduceToNat]))
      refine VWp.keep [2,3,4,7,8] [2,3,4,7,40] ?_; simp only [go_sem, Int.reduceEq, Int.reduceNe, Int.reduceLT, Int.reduceLE, Nat.reduceEqDiff, Nat.reduceAdd, Nat.reduceMul, Nat.reduceLT, Nat.reduceLeDiff, Nat.reduceSub, reduceCtorEq, reduceIte, Int.reduceToNat]
      refine vwp_seq_k fun N hN => ?_
      refine vwp_seq_k fun Na hNa => vreg tt_ok hF rfl ?_; simp only [go_sem, Int.reduceEq, Int.reduceNe, Int.reduceLT, Int.reduceLE, Nat.reduceEqDiff, Nat.reduceAdd, Nat.reduceMul, Nat.reduceLT, Nat.reduceLeDiff, Nat.reduceSub, reduceCtorEq, reduceIte, Int.reduceToNat]
      refine hNa _ (VWp.keep [2,3,4,7,8,9] [2,3,4,7,40] ?_); simp only [go_sem, Int.reduceEq, Int.reduceNe, Int.reduceLT, Int.reduceLE, Nat.reduceEqDiff, Nat.reduceAdd, Nat.reduceMul, Nat.reduceLT, Nat.reduceLeDiff, Nat.reduceSub, reduceCtorEq, reduceIte, Int.reduceToNat]
      refine vwp_block (vloop (fun k : Nat => [(2, .ptr 2 0), (3, .ptr 3 0), (4, .ptr 4 0), (7, .ptr 7 0), (8, .own 40 (addG c e ((c.gs.take k).find? (addP1 e))).1.length), (9, .int .i64 (k : Int))])
        (fun k => [(2, .box 31 [.sl 4 (c.es.map entC), .sl 2 (c.gs.map grpC)]), (3, .box 45 [.str e.name, .int .i64 e.unit, .str e.serial, .int .i64 e.file]), (4, .box 31 [.nil, .nil]), (7, .box 31 [.sl 4 ((addG c e ((c.gs.take k).find? (addP1 e))).2.map entC), .sl 2 (c.gs.map grpC)]), (40, .arr 4 45 ((addG c e ((c.gs.take k).find? (addP1 e))).1.map entC))])
        (fun k => k ≤ c.gs.length ∧ ∀ g, (c.gs.take k).find? (addP1 e) = some g → ¬ numS g.base e.name ≤ (numsS c.es g.base).getLastD 0) (fun k => c.gs.length - k) 0 ⟨by omega, by simp⟩ (by simp only [go_sem, Int.reduceEq, Int.reduceNe, Int.reduceLT, Int.reduceLE, Nat.reduceEqDiff, Nat.reduceAdd, Nat.reduceMul, Nat.reduceLT, Nat.reduceLeDiff, Nat.reduceSub, reduceCtorEq, reduceIte, Int.reduceToNat]; simp [addG]) ?_)
      rintro k ⟨hk, h6⟩
      refine vwp_seq_k fun Nb hNb => ?_
      refine vwp_seq_k fun Nc hNc => vreg tt_ok hF rfl ?_; simp only [go_sem, Int.reduceEq, Int.reduceNe, Int.reduceLT, Int.reduceLE, Nat.reduceEqDiff, Nat.reduceAdd, Nat.reduceMul, Nat.reduceLT, Nat.reduceLeDiff, Nat.reduceSub, reduceCtorEq, reduceIte, Int.reduceToNat]
      refine hNc _ (VWp.keep [2,3,4,7,8,9,45] [2,3,4,7,40] ?_); simp only [go_sem, Int.reduceEq, Int.reduceNe, Int.reduceLT, Int.reduceLE, Nat.reduceEqDiff, Nat.reduceAdd, Nat.reduceMul, Nat.reduceLT, Nat.reduceLeDiff, Nat.reduceSub, reduceCtorEq, reduceIte, Int.reduceToNat]
      refine vif rfl ⟨fun ht => ?_, fun hf => ?_⟩
      · have hlt : k < c.gs.length := by simpa using ht
        obtain ⟨x, hx⟩ : ∃ x, c.gs[k]? = some x := ⟨_, List.getElem?_eq_getElem hlt⟩
        have hrow : (c.gs.map grpC).getD k [] = [.str x.base, .int .i64 x.limit] := getD_map c.gs grpC k x [] hx
        have hxo := (validC_all hv).2.2.2.2.1
        rw [List.all_eq_true] at hxo
        obtain ⟨p1, p2, p3, p4⟩ := grpOk_parts (hxo x (List.mem_of_getElem? hx))
        have hst := find_step (p := addP1 e) hx
        refine vwp_skip (hNb _ ?_)
        refine vwp_seq_k fun Nd hNd => ?_
        refine vwp_block ?_
        refine vwp_seq_k fun Ne hNe => vreg tt_ok hF rfl ?_; simp only [go_sem, Int.reduceEq, Int.reduceNe, Int.reduceLT, Int.reduceLE, Nat.reduceEqDiff, Nat.reduceAdd, Nat.reduceMul, Nat.reduceLT, Nat.reduceLeDiff, Nat.reduceSub, reduceCtorEq, reduceIte, Int.reduceToNat]
        simp only [hrow, go_sem, Int.reduceEq, Int.reduceNe, Int.reduceLT, Int.reduceLE, Nat.reduceEqDiff, Nat.reduceAdd, Nat.reduceMul, Nat.reduceLT, Nat.reduceLeDiff, Nat.reduceSub, reduceCtorEq, reduceIte, Int.reduceToNat]
        refine ⟨⟨by omega, by omega⟩, ?_⟩
        refine hNe _ (VWp.keepR [2,3,4,7,8,9,10] [2,3,4,7,10,40] tt_ok hF rfl fun Nf hNf => ?_); simp only [go_sem, Int.reduceEq, Int.reduceNe, Int.reduceLT, Int.reduceLE, Nat.reduceEqDiff, Nat.reduceAdd, Nat.reduceMul, Nat.reduceLT, Nat.reduceLeDiff, Nat.reduceSub, reduceCtorEq, reduceIte, Int.reduceToNat]
        refine .inl ⟨_, number_spec x.base e.name (by omega), ?_⟩; try simp only [go_sem, Int.reduceEq, Int.reduceNe, Int.reduceLT, Int.reduceLE, Nat.reduceEqDiff, Nat.reduceAdd, Nat.reduceMul, Nat.reduceLT, Nat.reduceLeDiff, Nat.reduceSub, reduceCtorEq, reduceIte, Int.reduceToNat]
        refine hNf _ (VWp.keep [2,3,4,7,8,9,10,11] [2,3,4,7,10,40] ?_); simp only [go_sem, Int.reduceEq, Int.reduceNe, Int.reduceLT, Int.reduceLE, Nat.reduceEqDiff, Nat.reduceAdd, Nat.reduceMul, Nat.reduceLT, Nat.reduceLeDiff, Nat.reduceSub, reduceCtorEq, reduceIte, Int.reduceToNat]
        refine vwp_seq_k fun Ng hNg => ?_
        refine vwp_seq_k fun Nh hNh => vreg tt_ok hF rfl ?_; simp only [go_sem, Int.reduceEq, Int.reduceNe, Int.reduceLT, Int.reduceLE, Nat.reduceEqDiff, Nat.reduceAdd, Nat.reduceMul, Nat.reduceLT, Nat.reduceLeDiff, Nat.reduceSub, reduceCtorEq, reduceIte, Int.reduceToNat]
        refine hNh _ (VWp.keep [2,3,4,7,8,9,10,11,59] [2,3,4,7,10,40] ?_); simp only [go_sem, Int.reduceEq, Int.reduceNe, Int.reduceLT, Int.reduceLE, Nat.reduceEqDiff, Nat.reduceAdd, Nat.reduceMul, Nat.reduceLT, Nat.reduceLeDiff, Nat.reduceSub, reduceCtorEq, reduceIte, Int.reduceToNat]
        refine vif rfl ⟨fun ht => ?_, fun hf => ?_⟩
        · have hp : addP1 e x = false := decide_eq_false (by have := of_decide_eq_true ht; omega)
          rw [hp] at hst
          have hst : (c.gs.take (k + 1)).find? (addP1 e) = (c.gs.take k).find? (addP1 e) := by rw [hst]; cases (c.gs.take k).find? (addP1 e) <;> rfl
          refine vwp_exit ?_
          simp only [go_sem, Int.reduceEq, Int.reduceNe, Int.reduceLT, Int.reduceLE, Nat.reduceEqDiff, Nat.reduceAdd, Nat.reduceMul, Nat.reduceLT, Nat.reduceLeDiff, Nat.reduceSub, reduceCtorEq, reduceIte, Int.reduceToNat]
          refine hNd _ (VWp.keep [2,3,4,7,8,9] [2,3,4,7,40] ?_); simp only [go_sem, Int.reduceEq, Int.reduceNe, Int.reduceLT, Int.reduceLE, Nat.reduceEqDiff, Nat.reduceAdd, Nat.reduceMul, Nat.reduceLT, Nat.reduceLeDiff, Nat.reduceSub, reduceCtorEq, reduceIte, Int.reduceToNat]
          refine vreg tt_ok hF rfl ?_; simp only [go_sem, Int.reduceEq, Int.reduceNe, Int.reduceLT, Int.reduceLE, Nat.reduceEqDiff, Nat.reduceAdd, Nat.reduceMul, Nat.reduceLT, Nat.reduceLeDiff, Nat.reduceSub, reduceCtorEq, reduceIte, Int.reduceToNat]
          rw [wrap_i64 (by omega) (by omega)]
          exact ⟨k + 1, ⟨by omega, by rw [hst]; exact h6⟩, by omega, by simp only [hst]; simp⟩
        · have hp : addP1 e x = true := decide_eq_true (by have := of_decide_eq_false hf; omega)
          have hnone := one_base hv hx hp
          have hfull := find_full hx hnone hp
          rw [hp, hnone] at hst
          have hst : (c.gs.take (k + 1)).find? (addP1 e) = some x := hst
          have hnp : 0 < numS x.base e.name := of_decide_eq_true hp
          simp only [hnone, addG_n1, addG_n2]
          refine vwp_skip (hNg _ ?_)
          refine vwp_seq_k fun Nf hNf => vreg tt_ok hF rfl ?_; simp only [go_sem, Int.reduceEq, Int.reduceNe, Int.reduceLT, Int.reduceLE, Nat.reduceEqDiff, Nat.reduceAdd, Nat.reduceMul, Nat.reduceLT, Nat.reduceLeDiff, Nat.reduceSub, reduceCtorEq, reduceIte, Int.reduceToNat]
          refine .inl ⟨_, numbers_spec c x.base h1 (by omega), ?_⟩; try simp only [go_sem, Int.reduceEq, Int.reduceNe, Int.reduceLT, Int.reduceLE, Nat.reduceEqDiff, Nat.reduceAdd, Nat.reduceMul, Nat.reduceLT, Nat.reduceLeDiff, Nat.reduceSub, reduceCtorEq, reduceIte, Int.reduceToNat]
          simp only [intsV, go_sem, Int.reduceEq, Int.reduceNe, Int.reduceLT, Int.reduceLE, Nat.reduceEqDiff, Nat.reduceAdd, Nat.reduceMul, Nat.reduceLT, Nat.reduceLeDiff, Nat.reduceSub, reduceCtorEq, reduceIte, Int.reduceToNat]
          refine hNf _ (VWp.keep [2,3,4,7,8,9,10,11,12] [2,3,4,7,10,40] ?_); simp only [go_sem, Int.reduceEq, Int.reduceNe, Int.reduceLT, Int.reduceLE, Nat.reduceEqDiff, Nat.reduceAdd, Nat.reduceMul, Nat.reduceLT, Nat.reduceLeDiff, Nat.reduceSub, reduceCtorEq, reduceIte, Int.reduceToNat]
          have hnl := nums_len c.es x.base
          have hle : (numsS c.es x.base).length ≤ 1000000 := by rw [hnl]; unfold gensS; exact Nat.le_trans (List.length_filter_le _ _) h1
          have hasc := asc_insE e c.es (validC_all hv).2.2.2.1 (fun q => hn (.inl q))
          refine vwp_seq_k fun Ng hNg => ?_
          refine vmeet (fun b : Bool => [(2, .ptr 2 0), (3, .ptr 3 0), (4, .ptr 4 0), (7, .ptr 7 0), (8, .own 40 0), (9, .int .i64 (k : Int)), (10, .ptr 10 0), (12, .sl 1 ((numsS c.es x.base).map fun (n : Nat) => [V.int .i64 (n : Int)])), (76, .bool b)])
            (fun _ => [(2, .box 31 [.sl 4 (c.es.map entC), .sl 2 (c.gs.map grpC)]), (3, .box 45 [.str e.name, .int .i64 e.unit, .str e.serial, .int .i64 e.file]), (4, .box 31 [.nil, .nil]), (7, .box 31 [.sl 4 ((insE e c.es).map entC), .sl 2 (c.gs.map grpC)]), (10, .box 47 [.str x.base, .int .i64 x.limit]), (40, .arr 4 45 [])])
            (fun b => decide (numS x.base e.name ≤ (numsS c.es x.base).getLastD 0) = b) ?_ ?_
          · rcases Nat.eq_zero_or_pos (numsS c.es x.base).length with z0 | z0
            · have f0 : decide ((0 : Int) < ((numsS c.es x.base).length : Int)) = false := decide_eq_false (by omega)
              have fz : (numsS c.es x.base).getLastD 0 = 0 := by rw [List.eq_nil_of_length_eq_zero z0]; rfl
              refine vreg tt_ok hF rfl ?_; simp only [go_sem, Int.reduceEq, Int.reduceNe, Int.reduceLT, Int.reduceLE, Nat.reduceEqDiff, Nat.reduceAdd, Nat.reduceMul, Nat.reduceLT, Nat.reduceLeDiff, Nat.reduceSub, reduceCtorEq, reduceIte, Int.reduceToNat, f0]
              exact ⟨false, by rw [fz]; exact decide_eq_false (by omega), by simp⟩
            · have f0 : decide ((0 : Int) < ((numsS c.es x.base).length : Int)) = true := decide_eq_true (by omega)
              have hw : IntKind.i64.wrap (((numsS c.es x.base).length : Int) - 1) = (((numsS c.es x.base).length - 1 : Nat) : Int) := by rw [wrap_i64 (by omega) (by omega)]; omega
              have hr2 := nums_row (l := numsS c.es x.base) (j := (numsS c.es x.base).length - 1) (by omega)
              rw [last_at z0] at hr2
              have fc : decide (((numS x.base e.name : Nat) : Int) ≤ (((numsS c.es x.base).getLastD 0 : Nat) : Int)) = decide (numS x.base e.name ≤ (numsS c.es x.base).getLastD 0) := by simp
              refine vreg tt_ok hF rfl ?_; simp only [go_sem, Int.reduceEq, Int.reduceNe, Int.reduceLT, Int.reduceLE, Nat.reduceEqDiff, Nat.reduceAdd, Nat.reduceMul, Nat.reduceLT, Nat.reduceLeDiff, Nat.reduceSub, reduceCtorEq, reduceIte, Int.reduceToNat, f0, hw, hr2, fc]
              exact ⟨⟨by omega, by omega⟩, _, rfl, by simp⟩
          intro b hb6
          cases b with
          | true =>
            refine vif rfl ⟨fun ht => ?_, fun hf => (by cases hf)⟩
            refine vwp_seq_k fun Nh hNh => vreg tt_ok hF rfl ?_; simp only [go_sem, Int.reduceEq, Int.reduceNe, Int.reduceLT, Int.reduceLE, Nat.reduceEqDiff, Nat.reduceAdd, Nat.reduceMul, Nat.reduceLT, Nat.reduceLeDiff, Nat.reduceSub, reduceCtorEq, reduceIte, Int.reduceToNat]
            refine hNh _ (vwp_ret ?_)
            simp only [go_sem, Int.reduceEq, Int.reduceNe, Int.reduceLT, Int.reduceLE, Nat.reduceEqDiff, Nat.reduceAdd, Nat.reduceMul, Nat.reduceLT, Nat.reduceLeDiff, Nat.reduceSub, reduceCtorEq, reduceIte, Int.reduceToNat]
            rw [addC_6 hb hn hfull (of_decide_eq_true hb6)]
            exact le_bad3 _ rfl
          | false =>
            have h7 : ¬ numS x.base e.name ≤ (numsS c.es x.base).getLastD 0 := of_decide_eq_false hb6
            have h6' : ∀ g, (c.gs.take (k + 1)).find? (addP1 e) = some g → ¬ numS g.base e.name ≤ (numsS c.es g.base).getLastD 0 := by
              intro g hgg; rw [hst] at hgg; cases hgg; exact h7
            refine vif rfl ⟨fun hf => (by cases hf), fun _ => ?_⟩
            refine vwp_skip (hNg _ ?_)
            refine vwp_seq_k fun Nh hNh => vreg tt_ok hF rfl ?_; simp only [go_sem, Int.reduceEq, Int.reduceNe, Int.reduceLT, Int.reduceLE, Nat.reduceEqDiff, Nat.reduceAdd, Nat.reduceMul, Nat.reduceLT, Nat.reduceLeDiff, Nat.reduceSub, reduceCtorEq, reduceIte, Int.reduceToNat]
            refine hNh _ (VWp.keep [2,3,4,7,8,9,10,12,82] [2,3,4,7,10,40] ?_); simp only [go_sem, Int.reduceEq, Int.reduceNe, Int.reduceLT, Int.reduceLE, Nat.reduceEqDiff, Nat.reduceAdd, Nat.reduceMul, Nat.reduceLT, Nat.reduceLeDiff, Nat.reduceSub, reduceCtorEq, reduceIte, Int.reduceToNat]
            refine vif rfl ⟨fun ht => ?_, fun hf => ?_⟩
            · have hl : ((gensS c.es x.base).length : Int) = x.limit := by have := of_decide_eq_true ht; omega
              have hpos : 0 < (gensS c.es x.base).length := by omega
              obtain ⟨g1, g2, g3⟩ := gens_name (es := c.es) (b := x.base) (j := 0) hpos
              rw [head_at hpos] at g3
              obtain ⟨hd, hhd⟩ : ∃ hd, (gensS c.es x.base).headD default = hd := ⟨_, rfl⟩
              have hhm : hd ∈ gensS c.es x.base := by
                rw [← hhd]
                cases hz : gensS c.es x.base with
                | nil => rw [hz] at hpos; cases hpos
                | cons a t => simp
              have hag : addG c e (some x) = ([hd], dropE hd.name (insE e c.es)) := by unfold addG; simp only; rw [if_pos hl, hhd]
              rw [hhd] at g3
              have hr0 := nums_row (l := numsS c.es x.base) (j := 0) (by omega)
              refine vwp_seq_k fun Nr hNr => vregd tt_ok mixed hF rfl (by kernel_rfl) (by kernel_rfl) ?_; simp only [go_sem, Int.reduceEq, Int.reduceNe, Int.reduceLT, Int.reduceLE, Nat.reduceEqDiff, Nat.reduceAdd, Nat.reduceMul, Nat.reduceLT, Nat.reduceLeDiff, Nat.reduceSub, reduceCtorEq, reduceIte, Int.reduceToNat, hr0]
              refine ⟨by omega, ?_⟩
              refine .inl ⟨_, rGen_spec x.base ((numsS c.es x.base).getD 0 0 : Nat), ?_⟩; try simp only [go_sem, Int.reduceEq, Int.reduceNe, Int.reduceLT, Int.reduceLE, Nat.reduceEqDiff, Nat.reduceAdd, Nat.reduceMul, Nat.reduceLT, Nat.reduceLeDiff, Nat.reduceSub, reduceCtorEq, reduceIte, Int.reduceToNat]
              rw [gen_at p1 p2 (by omega) (by omega), Int.toNat_natCast, ← g3]
              refine hNr _ (VWp.keep [2,3,4,7,8,9,13] [2,3,4,7,40] ?_); simp only [go_sem, Int.reduceEq, Int.reduceNe, Int.reduceLT, Int.reduceLE, Nat.reduceEqDiff, Nat.reduceAdd, Nat.reduceMul, Nat.reduceLT, Nat.reduceLeDiff, Nat.reduceSub, reduceCtorEq, reduceIte, Int.reduceToNat]
              have hmem : hd.name ∈ namesS (insE e c.es) := names_insE.2 (.inr (List.mem_map.2 ⟨_, (mem_gensS.1 hhm).1, rfl⟩))
              obtain ⟨e1, e2⟩ := idx_row ⟨insE e c.es, c.gs⟩ hd.name hmem
              have hil := insE_le e c.es
              obtain ⟨i, hi⟩ : ∃ i, (namesS (insE e c.es)).idxOf hd.name = i := ⟨_, rfl⟩
              have e1 : fIdx (namesS (insE e c.es)) hd.name = (i : Int) := by rw [← hi]; exact e1
              have e2 : i < (insE e c.es).length := by rw [← hi]; exact e2
              have hxi : (insE e c.es)[i]? = some hd := by
                obtain ⟨y, hy⟩ : ∃ y, (insE e c.es)[i]? = some y := ⟨_, List.getElem?_eq_getElem e2⟩
                have hyn : y.name = hd.name := by
                  have q1 : (namesS (insE e c.es))[(namesS (insE e c.es)).idxOf hd.name]'(List.idxOf_lt_length_of_mem hmem) = hd.name := List.getElem_idxOf _
                  have q2 : (namesS (insE e c.es))[i]? = some hd.name := by rw [← hi]; rw [List.getElem?_eq_getElem (List.idxOf_lt_length_of_mem hmem)]; exact congrArg some q1
                  unfold namesS at q2
                  rw [List.getElem?_map, hy] at q2
                  exact Option.some.inj q2
                have hdm : hd ∈ insE e c.es := (mem_insE e c.es hd).2 (.inr (mem_gensS.1 hhm).1)
                rw [hy, asc_ent hasc (List.mem_of_getElem? hy) hdm hyn]
              have hrow3 : ((insE e c.es).map entC).getD i [] = [.str hd.name, .int .i64 hd.unit, .str hd.serial, .int .i64 hd.file] := getD_map _ entC i hd [] hxi
              refine vwp_seq_k fun Nr hNr => vreg tt_ok hF rfl ?_; simp only [go_sem, Int.reduceEq, Int.reduceNe, Int.reduceLT, Int.reduceLE, Nat.reduceEqDiff, Nat.reduceAdd, Nat.reduceMul, Nat.reduceLT, Nat.reduceLeDiff, Nat.reduceSub, reduceCtorEq, reduceIte, Int.reduceToNat]
              refine .inl ⟨_, find_spec ⟨insE e c.es, c.gs⟩ hd.name (by show (insE e c.es).length ≤ _; have := (validC_all hv).1; omega), ?_⟩; try simp only [go_sem, Int.reduceEq, Int.reduceNe, Int.reduceLT, Int.reduceLE, Nat.reduceEqDiff, Nat.reduceAdd, Nat.reduceMul, Nat.reduceLT, Nat.reduceLeDiff, Nat.reduceSub, reduceCtorEq, reduceIte, Int.reduceToNat]
              simp only [e1]
              refine hNr _ (VWp.keep [2,3,4,7,8,9,15] [2,3,4,7,40] ?_); simp only [go_sem, Int.reduceEq, Int.reduceNe, Int.reduceLT, Int.reduceLE, Nat.reduceEqDiff, Nat.reduceAdd, Nat.reduceMul, Nat.reduceLT, Nat.reduceLeDiff, Nat.reduceSub, reduceCtorEq, reduceIte, Int.reduceToNat]
              refine vwp_seq_k fun Nr hNr => vreg tt_ok hF rfl ?_; simp only [go_sem, Int.reduceEq, Int.reduceNe, Int.reduceLT, Int.reduceLE, Nat.reduceEqDiff, Nat.reduceAdd, Nat.reduceMul, Nat.reduceLT, Nat.reduceLeDiff, Nat.reduceSub, reduceCtorEq, reduceIte, Int.reduceToNat, hrow3]
              refine ⟨⟨by omega, by omega⟩, ?_⟩
              refine hNr _ (VWp.keep [2,3,4,7,8,9,15] [2,3,4,7,40] ?_); simp only [go_sem, Int.reduceEq, Int.reduceNe, Int.reduceLT, Int.reduceLE, Nat.reduceEqDiff, Nat.reduceAdd, Nat.reduceMul, Nat.reduceLT, Nat.reduceLeDiff, Nat.reduceSub, reduceCtorEq, reduceIte, Int.reduceToNat]
              refine vreg tt_ok hF rfl ?_; simp only [go_sem, Int.reduceEq, Int.reduceNe, Int.reduceLT, Int.reduceLE, Nat.reduceEqDiff, Nat.reduceAdd, Nat.reduceMul, Nat.reduceLT, Nat.reduceLeDiff, Nat.reduceSub, reduceCtorEq, reduceIte, Int.reduceToNat]
              refine .inl ⟨_, without_spec ⟨insE e c.es, c.gs⟩ i (by show (insE e c.es).length ≤ _; have := (validC_all hv).1; omega) h2, ?_⟩; try simp only [go_sem, Int.reduceEq, Int.reduceNe, Int.reduceLT, Int.reduceLE, Nat.reduceEqDiff, Nat.reduceAdd, Nat.reduceMul, Nat.reduceLT, Nat.reduceLeDiff, Nat.reduceSub, reduceCtorEq, reduceIte, Int.reduceToNat]
              refine hNd _ (VWp.keep [2,3,4,7,8,9] [2,3,4,7,40] ?_); simp only [go_sem, Int.reduceEq, Int.reduceNe, Int.reduceLT, Int.reduceLE, Nat.reduceEqDiff, Nat.reduceAdd, Nat.reduceMul, Nat.reduceLT, Nat.reduceLeDiff, Nat.reduceSub, reduceCtorEq, reduceIte, Int.reduceToNat]
              refine vreg tt_ok hF rfl ?_; simp only [go_sem, Int.reduceEq, Int.reduceNe, Int.reduceLT, Int.reduceLE, Nat.reduceEqDiff, Nat.reduceAdd, Nat.reduceMul, Nat.reduceLT, Nat.reduceLeDiff, Nat.reduceSub, reduceCtorEq, reduceIte, Int.reduceToNat]
              rw [wrap_i64 (by omega) (by omega)]
              have hdr := dropE_idx _ i hd hasc hxi
              exact ⟨k + 1, ⟨by omega, h6'⟩, by omega, by simp only [hst, hag, hdr]; simp [entC]⟩
            · have hl : ¬ ((gensS c.es x.base).length : Int) = x.limit := by have := of_decide_eq_false hf; omega
              have hag : addG c e (some x) = ([], insE e c.es) := by unfold addG; simp only; rw [if_neg hl]
              refine vwp_skip ?_
              simp only [go_sem, Int.reduceEq, Int.reduceNe, Int.reduceLT, Int.reduceLE, Nat.reduceEqDiff, Nat.reduceAdd, Nat.reduceMul, Nat.reduceLT, Nat.reduceLeDiff, Nat.reduceSub, reduceCtorEq, reduceIte, Int.reduceToNat]
              refine hNd _ (VWp.keep [2,3,4,7,8,9] [2,3,4,7,40] ?_); simp only [go_sem, Int.reduceEq, Int.reduceNe, Int.reduceLT, Int.reduceLE, Nat.reduceEqDiff, Nat.reduceAdd, Nat.reduceMul, Nat.reduceLT, Nat.reduceLeDiff, Nat.reduceSub, reduceCtorEq, reduceIte, Int.reduceToNat]
              refine vreg tt_ok hF rfl ?_; simp only [go_sem, Int.reduceEq, Int.reduceNe, Int.reduceLT, Int.reduceLE, Nat.reduceEqDiff, Nat.reduceAdd, Nat.reduceMul, Nat.reduceLT, Nat.reduceLeDiff, Nat.reduceSub, reduceCtorEq, reduceIte, Int.reduceToNat]
              rw [wrap_i64 (by omega) (by omega)]
              exact ⟨k + 1, ⟨by omega, h6'⟩, by omega, by simp only [hst, hag]; simp⟩
      · have hle : k = c.gs.length := by have : c.gs.length ≤ k := by simpa using hf
                                         omega
        subst hle
        rw [List.take_length] at h6
        refine vwp_exit ?_
        simp only [go_sem, Int.reduceEq, Int.reduceNe, Int.reduceLT, Int.reduceLE, Nat.reduceEqDiff, Nat.reduceAdd, Nat.reduceMul, Nat.reduceLT, Nat.reduceLeDiff, Nat.reduceSub, reduceCtorEq, reduceIte, Int.reduceToNat]
        rw [List.take_length]
        obtain ⟨⟨gone, es'⟩, hge⟩ : ∃ z, addG c e (c.gs.find? (addP1 e)) = z := ⟨_, rfl⟩
        have hfin := addC_0 hb hn h6 hge
        rw [hge]
        refine hN _ (VWp.keep [4,7,8] [4,7,40] ?_); simp only [go_sem, Int.reduceEq, Int.reduceNe, Int.reduceLT, Int.reduceLE, Nat.reduceEqDiff, Nat.reduceAdd, Nat.reduceMul, Nat.reduceLT, Nat.reduceLeDiff, Nat.reduceSub, reduceCtorEq, reduceIte, Int.reduceToNat]
        refine vwp_seq_k fun N hN => ?_
        refine vwp_seq_k fun Na hNa => vreg tt_ok hF rfl ?_; simp only [go_sem, Int.reduceEq, Int.reduceNe, Int.reduceLT, Int.reduceLE, Nat.reduceEqDiff, Nat.reduceAdd, Nat.reduceMul, Nat.reduceLT, Nat.reduceLeDiff, Nat.reduceSub, reduceCtorEq, reduceIte, Int.reduceToNat]
        refine hNa _ (VWp.keep [4,7,8,109] [4,7,40] ?_); simp only [go_sem, Int.reduceEq, Int.reduceNe, Int.reduceLT, Int.reduceLE, Nat.reduceEqDiff, Nat.reduceAdd, Nat.reduceMul, Nat.reduceLT, Nat.reduceLeDiff, Nat.reduceSub, reduceCtorEq, reduceIte, Int.reduceToNat]
        refine vif rfl ⟨fun ht => ?_, fun hf => ?_⟩
        · rw [if_pos (by have := of_decide_eq_true ht; omega)] at hfin
          refine vwp_seq_k fun Nb hNb => vreg tt_ok hF rfl ?_; simp only [go_sem, Int.reduceEq, Int.reduceNe, Int.reduceLT, Int.reduceLE, Nat.reduceEqDiff, Nat.reduceAdd, Nat.reduceMul, Nat.reduceLT, Nat.reduceLeDiff, Nat.reduceSub, reduceCtorEq, reduceIte, Int.reduceToNat]
          refine hNb _ (vwp_ret ?_)
          simp only [go_sem, Int.reduceEq, Int.reduceNe, Int.reduceLT, Int.reduceLE, Nat.reduceEqDiff, Nat.reduceAdd, Nat.reduceMul, Nat.reduceLT, Nat.reduceLeDiff, Nat.reduceSub, reduceCtorEq, reduceIte, Int.reduceToNat]
          rw [hfin]
          exact le_bad3 _ rfl
        · rw [if_neg (by have := of_decide_eq_false hf; omega)] at hfin
          refine vwp_skip (hN _ ?_)
          refine vwp_seq_k fun Nb hNb => vreg tt_ok hF rfl ?_; simp only [go_sem, Int.reduceEq, Int.reduceNe, Int.reduceLT, Int.reduceLE, Nat.reduceEqDiff, Nat.reduceAdd, Nat.reduceMul, Nat.reduceLT, Nat.reduceLeDiff, Nat.reduceSub, reduceCtorEq, reduceIte, Int.reduceToNat]
          refine hNb _ (vwp_ret ?_)
          simp only [go_sem, Int.reduceEq, Int.reduceNe, Int.reduceLT, Int.reduceLE, Nat.reduceEqDiff, Nat.reduceAdd, Nat.reduceMul, Nat.reduceLT, Nat.reduceLeDiff, Nat.reduceSub, reduceCtorEq, reduceIte, Int.reduceToNat]
          rw [hfin]
          exact LeV.refl _
end Go.Proofs.YtldkmclfhjcicaaGreatDoor
