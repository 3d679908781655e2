import Derived.LoopN
import Derived.Lib.UnsafeStr
import Derived.Lib.Builder
import Derived.LoopTactic
import Derived.Maps.RangeRun
import Derived.Outline
import Derived.WalkMore
import Derived.WalkKit
import Derived.Test.YtedbbinlcdgkoaaGreatDoorYA
import Derived.Test.YtedbbinlcdgkoaaGreatDoorYB
import Derived.Test.YtedbbinlcdgkoaaGreatDoorQX
import Derived.Test.YtedbbinlcdgkoaaGreatDoorQC

/- Layer 19: a line of Print; the map of the kinds. -/
-- SIMP: bytesR_len, Nat.le_refl, ofVal_nilJ, ofVal_nilP
namespace Go.Proofs.YtedbbinlcdgkoaaGreatDoor
open Go.RowKit Go.Lib
-- FUSE
-- LESS
set_option linter.unusedVariables false
set_option linter.unusedSimpArgs false
theorem ofVal_nilP : ofVal (.pointer none) = .raw (.pointer none) := rfl
set_option maxHeartbeats 4000000 in
set_option maxRecDepth 4000 in
theorem line_B (u : Bool) (l : Bs) (ws : List Bs) (hl : l.length ≤ 100000) (h1 : ws ≠ []) (h2 : ws.length ≤ 10) (h3 : ∀ x ∈ ws, x.length ≤ 1000) : SpecB Tryz.prog 36 [.ptr 1000000 0, .sl 1 (ws.map strR)] (bldO u l) (.tup []) (bldO true (l ++ lineW ws)) := by
  have hj := Join_spec ws h1 (by omega) (fun x hx => by have := h3 x hx; omega)
  have hb := join_bound ws 1000 h3
  have hb2 : ws.length * (1000 + 1) ≤ 10 * 1001 := Nat.mul_le_mul_right _ h2
  have g1 := WriteString_B u l (joinW ws) (by omega) (by omega)
  have g2 := WriteByte_B true (l ++ joinW ws) 10 (by rw [List.length_append]; omega)
  have e : l ++ lineW ws = l ++ joinW ws ++ [10] := by unfold lineW; rw [List.append_assoc]
  rw [e]
  rw [show ((10 : UInt8).toNat : Int) = 10 from rfl] at g2
  obtain ⟨A, hA⟩ : ∃ A, l ++ joinW ws = A := ⟨_, rfl⟩
  rw [hA] at g1 g2 ⊢
  obtain ⟨B, hB⟩ : ∃ B, A ++ [10] = B := ⟨_, rfl⟩
  rw [hB] at g2 ⊢
  unfold bldO selfV at g1 g2 ⊢
  cases u
  all_goals
    simp only [if_true, if_false, Bool.false_eq_true] at g1 g2 ⊢
    refine specB_of tt_ok Tryz.func36 rfl (by decide) Tryz.ntmps36 (congrArg Array.toList Tryz.results36) (by simp) (by decide) rfl (by simp only [go_sem, Int.reduceEq, Int.reduceLT, Nat.reduceEqDiff, Nat.reduceAdd, Nat.reduceMul, Nat.reduceLT, Nat.reduceLeDiff, Int.reduceToNat, bytesR_len, Nat.le_refl, ofVal_nilJ, ofVal_nilP]) (fun F hF => ?_)
    refine vwp_seq_k fun Na hNa => vreg tt_ok hF rfl ?_; simp only [go_sem, Int.reduceEq, Int.reduceLT, Nat.reduceEqDiff, Nat.reduceAdd, Nat.reduceMul, Nat.reduceLT, Nat.reduceLeDiff, Int.reduceToNat, bytesR_len, Nat.le_refl, ofVal_nilJ, ofVal_nilP]
    refine .inl ⟨_, hj, ?_⟩; try simp only [go_sem, Int.reduceEq, Int.reduceLT, Nat.reduceEqDiff, Nat.reduceAdd, Nat.reduceMul, Nat.reduceLT, Nat.reduceLeDiff, Int.reduceToNat, bytesR_len, Nat.le_refl, ofVal_nilJ, ofVal_nilP]
    refine .inr (bxo [(1000000, 1000000), (1000002, 1000002)] rfl ?_); simp only [go_sem, Int.reduceEq, Int.reduceLT, Nat.reduceEqDiff, Nat.reduceAdd, Nat.reduceMul, Nat.reduceLT, Nat.reduceLeDiff, Int.reduceToNat, bytesR_len, Nat.le_refl, ofVal_nilJ, ofVal_nilP]; refine ⟨_, _, g1, ?_⟩; try simp only [go_sem, Int.reduceEq, Int.reduceLT, Nat.reduceEqDiff, Nat.reduceAdd, Nat.reduceMul, Nat.reduceLT, Nat.reduceLeDiff, Int.reduceToNat, bytesR_len, Nat.le_refl, ofVal_nilJ, ofVal_nilP]
    refine hNa _ (VWp.keep [0] [1000000,1000002] ?_); simp only [go_sem, Int.reduceEq, Int.reduceLT, Nat.reduceEqDiff, Nat.reduceAdd, Nat.reduceMul, Nat.reduceLT, Nat.reduceLeDiff, Int.reduceToNat, bytesR_len, Nat.le_refl, ofVal_nilJ, ofVal_nilP]
    refine vreg tt_ok hF rfl ?_; simp only [go_sem, Int.reduceEq, Int.reduceLT, Nat.reduceEqDiff, Nat.reduceAdd, Nat.reduceMul, Nat.reduceLT, Nat.reduceLeDiff, Int.reduceToNat, bytesR_len, Nat.le_refl, ofVal_nilJ, ofVal_nilP]
    refine .inr (bxo [(1000000, 1000000), (1000002, 1000002)] rfl ?_); simp only [go_sem, Int.reduceEq, Int.reduceLT, Nat.reduceEqDiff, Nat.reduceAdd, Nat.reduceMul, Nat.reduceLT, Nat.reduceLeDiff, Int.reduceToNat, bytesR_len, Nat.le_refl, ofVal_nilJ, ofVal_nilP]; refine ⟨_, _, g2, ?_⟩; try simp only [go_sem, Int.reduceEq, Int.reduceLT, Nat.reduceEqDiff, Nat.reduceAdd, Nat.reduceMul, Nat.reduceLT, Nat.reduceLeDiff, Int.reduceToNat, bytesR_len, Nat.le_refl, ofVal_nilJ, ofVal_nilP]
    exact LeV.refl _
theorem lines_short {c : CfgT} (hv : ValC c) : ∀ l ∈ linesC c, ∀ w ∈ l, w.length ≤ 50 := by
  have key : ∀ (l : List Bs) w, w ∈ l → w.length ≤ (joinW l).length := by
    intro l
    induction l with
    | nil => intro w h; cases h
    | cons x r ih =>
      intro w hw
      cases r with
      | nil =>
        rcases List.mem_cons.1 hw with rfl | hw
        · exact Nat.le_refl _
        · cases hw
      | cons y r =>
        rw [joinW, List.length_append, List.length_cons]
        rcases List.mem_cons.1 hw with rfl | hw
        · omega
        · have := ih w hw; omega
  intro l hl w hw
  exact Nat.le_trans (key l w hw) (line_len hv l hl)
theorem part_len2 {c : CfgT} (hv : ValC c) : ∀ p ∈ c.ps, (lineW (partW p)).length ≤ 51 := fun p hp => by
  have := line_len hv (partW p) (by unfold linesC; exact List.mem_cons_of_mem _ (List.mem_append_left _ (List.mem_map.2 ⟨p, hp, rfl⟩)))
  unfold lineW; rw [List.length_append, List.length_cons, List.length_nil]; omega
theorem unit_len2 {c : CfgT} (hv : ValC c) : ∀ u ∈ c.us, (lineW (unitW u)).length ≤ 51 := fun u hu => by
  have := line_len hv (unitW u) (by unfold linesC; exact List.mem_cons_of_mem _ (List.mem_append_right _ (List.mem_map.2 ⟨u, hu, rfl⟩)))
  unfold lineW; rw [List.length_append, List.length_cons, List.length_nil]; omega
theorem store_len2 {c : CfgT} (hv : ValC c) : (lineW (storeW c.store)).length ≤ 51 := by
  have := line_len hv (storeW c.store) (by unfold linesC; exact List.mem_cons_self)
  unfold lineW; rw [List.length_append, List.length_cons, List.length_nil]; omega
theorem line_T (T : Bs) (ws : List Bs) (hl : T.length ≤ 100000) (h1 : ws ≠ []) (h2 : ws.length ≤ 10) (h3 : ∀ x ∈ ws, x.length ≤ 1000) : SpecB Tryz.prog 36 [.ptr 1000000 0, .sl 1 (ws.map strR)] [(1000000, .box 79 [.ptr 1000000 0, .own 1000002 T.length]), (1000002, .arr 1 5 (bytesR T))] (.tup [])
    [(1000000, .box 79 [.ptr 1000000 0, .own 1000002 (T ++ lineW ws).length]), (1000002, .arr 1 5 (bytesR (T ++ lineW ws)))] := line_B true T ws hl h1 h2 h3
theorem objs_emp {w : World} (hg : GcW w) : Objs ⟨w, [], fun _ _ => False, 0, lko [], ⟨fun _ => 0, fun _ => undef⟩, gZ, 0⟩ ⟨fun _ => 0, fun _ => undef⟩ (lko []) w := by
  refine ⟨⟨Chg.refl _ _, fun b p h => h.elim, fun o b p h => (by cases h), fun o h => absurd rfl h, Nat.zero_le _, fun o => trivial, fun b p c h1 h2 => ⟨?_, h2⟩, ⟨fun b p h => h, hg⟩, ⟨fun o h => (by cases h), by simp⟩⟩, fun o T c h => (by cases h), fun o k E r h => (by cases h), fun o o' b h => (by cases h), fun o es h => (by cases h)⟩
  rintro (h | ⟨o, T, c, h, _⟩ | ⟨o, k, E, r, h, _⟩)
  · exact h
  · cases h
  · cases h
def kndE : Array MapEntry := #[{ key := .string ⟨#[82, 69, 65, 68, 69, 82]⟩, val := .int .i64 1, born := 0 }, { key := .string ⟨#[80, 85, 78, 67, 72]⟩, val := .int .i64 2, born := 1 }, { key := .string ⟨#[80, 82, 73, 78, 84, 69, 82]⟩, val := .int .i64 3, born := 2 }, { key := .string ⟨#[84, 65, 80, 69]⟩, val := .int .i64 4, born := 3 }, { key := .string ⟨#[68, 73, 83, 75]⟩, val := .int .i64 5, born := 4 }]
theorem kinds_any (w : World) (hg : GcW w) : Calls Tryz.prog 40 #[] w fun e w' => ∃ b, e = .returned (.map (some b)) ∧ Chg [] w w' ∧ w'.heap[b]? = some (.map kndE 5) := by
  refine (kinds_B.run (fun _ _ => False) [] gZ ⟨fun _ => 0, fun _ => undef⟩ w [] (objs_emp hg) rfl).mono ?_
  rintro e w' ⟨v, β', rfl, hO, hr⟩
  have hr : v = .map (some (β'.pb 1)) := hr
  subst hr
  obtain ⟨_, _, vs, h1, h2⟩ := hO.map 1 kndM rfl
  refine ⟨_, rfl, hO.chg, ?_⟩
  obtain ⟨v0, r0, rfl, q0, v1, r1, rfl, q1, v2, r2, rfl, q2, v3, r3, rfl, q3, v4, r4, rfl, q4, q5⟩ := h2
  cases q0; cases q1; cases q2; cases q3; cases q4
  have q5 : r4 = [] := q5
  subst q5
  exact h1
def pickS (k : Int) (seen : Array Nat) : Bs := if seen.contains (k.toNat - 1) then kndS k else []
theorem chg_setBlock {W w w2 : World} {r : Nat} {o : Obj} (h : Chg [] W w) (h2 : w2 = w ∨ w2 = w.drew) (hr : W.heap.size ≤ r) : Chg [] W (Go.ChangeMaps.setBlock w2 r o) := by
  have h3 : Chg [] W w2 := by
    rcases h2 with rfl | rfl
    · exact h
    · exact h.trans (Chg.drew [] w)
  refine h3.toL (b := r) (W' := Go.ChangeMaps.setBlock w2 r o) ?_ (.inr hr)
  refine ⟨rfl, rfl, rfl, by unfold Go.ChangeMaps.setBlock; simp, fun j hj hn => ?_⟩
  show (w2.heap.setIfInBounds r o)[j]? = _
  rw [Array.getElem?_setIfInBounds_ne (fun q => hn (by rw [q]; simp))]
theorem setBlock_at {w w2 : World} {r : Nat} {o x : Obj} (h : w.heap[r]? = some x) (h2 : w2 = w ∨ w2 = w.drew) : (Go.ChangeMaps.setBlock w2 r o).heap[r]? = some o := by
  have h3 : w2.heap[r]? = some x := by rcases h2 with rfl | rfl <;> exact h
  have hl := (Array.getElem?_eq_some_iff.1 h3).1
  show (w2.heap.setIfInBounds r o)[r]? = _
  rw [Array.getElem?_setIfInBounds_self_of_lt hl]
theorem setBlock_ne {w w2 : World} {r b : Nat} {o x : Obj} (h : w.heap[b]? = some x) (h2 : w2 = w ∨ w2 = w.drew) (hn : r ≠ b) : (Go.ChangeMaps.setBlock w2 r o).heap[b]? = some x := by
  have h3 : w2.heap[b]? = some x := by rcases h2 with rfl | rfl <;> exact h
  show (w2.heap.setIfInBounds r o)[b]? = _
  rw [Array.getElem?_setIfInBounds_ne hn]; exact h3
theorem kndE_mem {e : MapEntry} (h : e ∈ kndE.toList) : ∃ j : Nat, j < 5 ∧ e = { key := .string ⟨(kndS ((j : Int) + 1)).toArray⟩, val := .int .i64 ((j : Int) + 1), born := j } := by
  simp only [kndE, List.mem_cons, List.not_mem_nil, or_false] at h
  rcases h with rfl | rfl | rfl | rfl | rfl
  · exact ⟨0, by decide, rfl⟩
  · exact ⟨1, by decide, rfl⟩
  · exact ⟨2, by decide, rfl⟩
  · exact ⟨3, by decide, rfl⟩
  · exact ⟨4, by decide, rfl⟩
theorem all_seen_knd {k : Int} (hk : 1 ≤ k ∧ k ≤ 5) {seen : Array Nat} (h : (leftOf kndE seen).size = 0) : pickS k seen = kndS k := by
  have hc : seen.contains (k.toNat - 1) = true := by
    cases hq : seen.contains (k.toNat - 1) with
    | true => rfl
    | false =>
      exfalso
      obtain ⟨e, he, hb⟩ : ∃ e ∈ kndE, e.born = k.toNat - 1 := by
        have : k = 1 ∨ k = 2 ∨ k = 3 ∨ k = 4 ∨ k = 5 := by omega
        rcases this with rfl | rfl | rfl | rfl | rfl
        · exact ⟨kndE[0], Array.getElem_mem (by decide), rfl⟩
        · exact ⟨kndE[1], Array.getElem_mem (by decide), rfl⟩
        · exact ⟨kndE[2], Array.getElem_mem (by decide), rfl⟩
        · exact ⟨kndE[3], Array.getElem_mem (by decide), rfl⟩
        · exact ⟨kndE[4], Array.getElem_mem (by decide), rfl⟩
      have hm : e ∈ leftOf kndE seen := Array.mem_filter.2 ⟨he, by rw [hb, hq]; rfl⟩
      have := Array.size_pos_of_mem hm
      omega
  unfold pickS
  rw [if_pos hc]
theorem pick_hit {k : Int} {j : Nat} (h : (j : Int) + 1 = k) (seen : Array Nat) : pickS k (seen.push j) = kndS k := by
  unfold pickS
  rw [if_pos]
  rw [contains_push, show k.toNat - 1 = j by omega]; simp
theorem pick_miss {k : Int} (hk : 1 ≤ k) {j : Nat} (h : ¬ (j : Int) + 1 = k) (seen : Array Nat) : pickS k (seen.push j) = pickS k seen := by
  unfold pickS
  have : (k.toNat - 1 == j) = false := by rw [beq_eq_false_iff_ne]; omega
  rw [contains_push, this, Bool.or_false]
theorem frame91 (t : Array Value) (h : t.size = 91) : ∃ g : Nat → Value, t = List.toArray (g 0 :: g 1 :: g 2 :: g 3 :: g 4 :: g 5 :: g 6 :: g 7 :: g 8 :: g 9 :: g 10 :: g 11 :: g 12 :: g 13 :: g 14 :: g 15 :: g 16 :: g 17 :: g 18 :: g 19 :: g 20 :: g 21 :: g 22 :: g 23 :: g 24 :: g 25 :: g 26 :: g 27 :: g 28 :: g 29 :: g 30 :: g 31 :: g 32 :: g 33 :: g 34 :: g 35 :: g 36 :: g 37 :: g 38 :: g 39 :: g 40 :: g 41 :: g 42 :: g 43 :: g 44 :: g 45 :: g 46 :: g 47 :: g 48 :: g 49 :: g 50 :: g 51 :: g 52 :: g 53 :: g 54 :: g 55 :: g 56 :: g 57 :: g 58 :: g 59 :: g 60 :: g 61 :: g 62 :: g 63 :: g 64 :: g 65 :: g 66 :: g 67 :: g 68 :: g 69 :: g 70 :: g 71 :: g 72 :: g 73 :: g 74 :: g 75 :: g 76 :: g 77 :: g 78 :: g 79 :: g 80 :: g 81 :: g 82 :: g 83 :: g 84 :: g 85 :: g 86 :: g 87 :: g 88 :: g 89 :: g 90 :: []) ∧ ∀ i, t.getD i undef = g i := by
  obtain ⟨f, hf⟩ : ∃ f : Nat → Value, ∀ i, t.getD i undef = f i := ⟨_, fun i => rfl⟩
  refine ⟨f, ?_, hf⟩
  have e2 : List.toArray (f 0 :: f 1 :: f 2 :: f 3 :: f 4 :: f 5 :: f 6 :: f 7 :: f 8 :: f 9 :: f 10 :: f 11 :: f 12 :: f 13 :: f 14 :: f 15 :: f 16 :: f 17 :: f 18 :: f 19 :: f 20 :: f 21 :: f 22 :: f 23 :: f 24 :: f 25 :: f 26 :: f 27 :: f 28 :: f 29 :: f 30 :: f 31 :: f 32 :: f 33 :: f 34 :: f 35 :: f 36 :: f 37 :: f 38 :: f 39 :: f 40 :: f 41 :: f 42 :: f 43 :: f 44 :: f 45 :: f 46 :: f 47 :: f 48 :: f 49 :: f 50 :: f 51 :: f 52 :: f 53 :: f 54 :: f 55 :: f 56 :: f 57 :: f 58 :: f 59 :: f 60 :: f 61 :: f 62 :: f 63 :: f 64 :: f 65 :: f 66 :: f 67 :: f 68 :: f 69 :: f 70 :: f 71 :: f 72 :: f 73 :: f 74 :: f 75 :: f 76 :: f 77 :: f 78 :: f 79 :: f 80 :: f 81 :: f 82 :: f 83 :: f 84 :: f 85 :: f 86 :: f 87 :: f 88 :: f 89 :: f 90 :: []) = ((List.range 91).map f).toArray := rfl
  rw [e2]
  apply Array.ext
  · simp [h]
  · intro i h1 h2
    have e : t[i] = t.getD i undef := by simp [Array.getD, h1]
    rw [e, hf]
    simp
theorem iter_at {w : World} {r : Nat} {m : Option Nat} {s c : Nat} {seen : Array Nat} (h : w.heap[r]? = some (.mapIter m s seen c)) : w.iterSeen r = seen := by unfold World.iterSeen; rw [h]
theorem knd_less {seen : Array Nat} {e : MapEntry} {j : Nat} (hj : e.born = j) (he : e ∈ (leftOf kndE seen).toList) : (leftOf kndE (seen.push j)).size < (leftOf kndE seen).size := by
  rw [← hj]
  exact left_shrinks kndE seen e he
theorem knd_round {u : Int} {W wr W' : World} {r bm j : Nat} {seen : Array Nat} {e : MapEntry} {v : Value} (hv : v = .string ⟨(pickS u (seen.push j)).toArray⟩) (hr : wr.heap[r]? = some (.mapIter (some bm) 5 seen 5)) (hr2 : W'.heap[r]? = some (.mapIter (some bm) 5 (seen.push j) 5))
    (hb2 : W'.heap[bm]? = some (.map kndE 5)) (hcw : Chg [] W W') (hj : e.born = j) (he : e ∈ (leftOf kndE seen).toList) :
    (∃ seen_1 : Array Nat, v = .string ⟨(pickS u seen_1).toArray⟩ ∧ W'.heap[r]? = some (.mapIter (some bm) 5 seen_1 5) ∧ W'.heap[bm]? = some (.map kndE 5) ∧ Chg [] W W') ∧ (leftOf kndE (W'.iterSeen r)).size < (leftOf kndE (wr.iterSeen r)).size := by
  refine ⟨⟨seen.push j, hv, hr2, hb2, hcw⟩, ?_⟩
  rw [iter_at hr2, iter_at hr]
  exact knd_less hj he
theorem cells_byte : Tryz.prog.cellsOf 5 = 1 := by kernel_rfl
set_option maxHeartbeats 4000000 in
set_option maxRecDepth 100000 in
theorem String_own (b g cap : Nat) (Z : Bs) (hZ : Z ≠ []) (cur : Array Value) (w : World) (h1 : w.cell? ⟨b, 1, none⟩ = some (.slice (some ⟨g, 0, none⟩) Z.length cap)) (hg : w.heap[g]? = some (.cells cur 5 (0, 0))) (hnc : Z.length ≤ cap) (hcs : cap ≤ cur.size) (hcm : cap ≤ maxLen)
    (hcells : ∀ j x, Z[j]? = some x → w.cell? ⟨g, j, none⟩ = some (.int .u8 x.toNat)) :
    Calls Tryz.prog 41 #[.pointer (some ⟨b, 0, none⟩)] w fun e w' => e = .returned (.string ⟨Z.toArray⟩) ∧ w' = w.drew.freeze ⟨g, 0, none⟩ Z.length := by
  have hl0 : Z.length ≠ 0 := by simpa using hZ
  have c1 : w.drew.cell? ⟨b, 1, none⟩ = some (.slice (some ⟨g, 0, none⟩) Z.length cap) := h1
  have hSD : (Builtin.unsafeSliceData_ #[26] 113 #[.slice (some ⟨g, 0, none⟩) Z.length cap]).run Tryz.prog w.drew = .ok (.pointer (some ⟨g, 0, none⟩)) w.drew :=
    Lib.run_unsafeSliceData_row _ _ _ _ _ _ (by omega)
  have hUS : (Builtin.unsafeString_ #[113, 3] 9 #[.pointer (some ⟨g, 0, none⟩), .int .i64 Z.length]).run Tryz.prog w.drew = .ok (.string ⟨Z.toArray⟩) (w.drew.freeze ⟨g, 0, none⟩ Z.length) := by
    refine Lib.run_unsafeString_row w.drew 113 3 9 5 Tryz.underlying113 cells_byte g cur.size (by have hg' : w.drew.heap[g]? = some (.cells cur 5 (0, 0)) := hg; simp [World.shape?, hg']) Z hZ (by omega) (by unfold maxLen at hcm; omega) ?_
    intro j x hx
    have := hcells j x hx
    rw [show (⟨g, 0, none⟩ : Addr).add j = ⟨g, j, none⟩ from by
      unfold Addr.add
      split
      · rename_i q; subst q; rfl
      · simp]
    exact this
  go_enter Tryz.func41, Tryz.ntmps41
  go_wp2
  go_region
  all_goals (go_wp2; go_ret; exact ⟨rfl, rfl⟩)
theorem freeze_chg (w : World) (g n : Nat) : Chg [g] w (w.drew.freeze ⟨g, 0, none⟩ n) := by
  refine ⟨?_, ?_, ?_, ?_, fun j hj hn => ?_⟩
  · unfold World.freeze; split <;> rfl
  · unfold World.freeze; split <;> rfl
  · unfold World.freeze; split <;> rfl
  · unfold World.freeze; split
    · exact Nat.le_refl _
    · simp [Array.size_modify]
  · unfold World.freeze; split
    · rfl
    · show (w.heap.modify g _)[j]? = _
      rw [Array.getElem?_modify, if_neg (fun q => hn (by rw [q]; simp))]
theorem freeze_cell (w : World) (g n : Nat) (x : Addr) : (w.drew.freeze ⟨g, 0, none⟩ n).cell? x = w.cell? x := by
  unfold World.freeze
  split
  · rfl
  · unfold World.cell?
    simp only [Array.getElem?_modify]
    by_cases e : g = x.block
    · subst e
      rw [if_pos rfl]
      have hd : w.drew.heap[x.block]? = w.heap[x.block]? := rfl
      rw [hd]
      cases h : w.heap[x.block]? with
      | none => rfl
      | some o => cases o <;> rfl
    · rw [if_neg e]; rfl
theorem repL_bytes {S : Sit} : ∀ {l : Bs} {xs : List Value}, RepL S (l.map fun b => V.int .u8 (b.toNat : Int)) xs → xs = l.map fun b => Value.int .u8 (b.toNat : Int)
  | [], _, h => h
  | x :: r, _, h => by
    obtain ⟨v, vs, rfl, h1, h2⟩ := h
    have h1 : v = .int .u8 (x.toNat : Int) := h1
    subst h1
    rw [List.map_cons, repL_bytes h2]
end Go.Proofs.YtedbbinlcdgkoaaGreatDoor

/- Layer 19: Print. -/
-- SIMP: bytesR_len, Nat.le_refl, ofVal_nilJ, ofVal_nilP, List.take_length
namespace Go.Proofs.YtedbbinlcdgkoaaGreatDoor
open Go.RowKit Go.Lib
-- FUSE
-- LESS
set_option linter.unusedVariables false
set_option linter.unusedSimpArgs false
theorem chk_cases (c : CfgT) : chkE c = 0 ∨ chkE c = 190 := by unfold chkE; split <;> simp
def prtR (c : CfgT) : V := .tup [.str (if chkE c = 0 then printT c else []), .int .i64 (chkE c)]
set_option maxHeartbeats 16000000 in
set_option maxRecDepth 100000 in
theorem Print_spec (c : CfgT) : Spec Tryz.prog 17 [.agg (cfgC c)] (prtR c) := by
  have hck := Check_spec c
  unfold prtR
  rcases chk_cases c with hz | hz
  · have hv := val_of hz
    rw [if_pos hz, hz, print_parts]
    rw [hz] at hck
    unfold cfgC at hck ⊢
    have hst := size_bound hv.st
    have hito := Itoa_int c.store (by omega) (by omega)
    have hXl := store_len2 hv
    have hPl := part_len2 hv
    have hUl := unit_len2 hv
    have hline0 := line_B false [] (storeW c.store) (by simp) (by simp [storeW]) (by simp [storeW]) (fun x hx => by have := lines_short hv _ (by unfold linesC; exact List.mem_cons_self) x hx; omega)
    rw [List.nil_append] at hline0
    obtain ⟨X, hX⟩ : ∃ X, lineW (storeW c.store) = X := ⟨_, rfl⟩
    rw [hX] at hXl hline0 ⊢
    refine spec_of tt_ok Tryz.func17 rfl (by decide) Tryz.ntmps17 (congrArg Array.toList Tryz.results17) (by simp) (by decide) rfl rfl (fun F hF => ?_)
    refine vwp_seq_k fun Na hNa => vreg tt_ok hF rfl ?_; simp only [go_sem, Int.reduceEq, Int.reduceLT, Nat.reduceEqDiff, Nat.reduceAdd, Nat.reduceMul, Nat.reduceLT, Nat.reduceLeDiff, Int.reduceToNat, bytesR_len, Nat.le_refl, ofVal_nilJ, ofVal_nilP, List.take_length]
    refine hNa _ (VWp.keep [1] [1] ?_); simp only [go_sem, Int.reduceEq, Int.reduceLT, Nat.reduceEqDiff, Nat.reduceAdd, Nat.reduceMul, Nat.reduceLT, Nat.reduceLeDiff, Int.reduceToNat, bytesR_len, Nat.le_refl, ofVal_nilJ, ofVal_nilP, List.take_length]
    refine vwp_seq_k fun Nb hNb => ?_
    refine vwp_seq_k fun Nc hNc => vreg tt_ok hF rfl ?_; simp only [go_sem, Int.reduceEq, Int.reduceLT, Nat.reduceEqDiff, Nat.reduceAdd, Nat.reduceMul, Nat.reduceLT, Nat.reduceLeDiff, Int.reduceToNat, bytesR_len, Nat.le_refl, ofVal_nilJ, ofVal_nilP, List.take_length]
    refine .inl ⟨_, hck, ?_⟩; try simp only [go_sem, Int.reduceEq, Int.reduceLT, Nat.reduceEqDiff, Nat.reduceAdd, Nat.reduceMul, Nat.reduceLT, Nat.reduceLeDiff, Int.reduceToNat, bytesR_len, Nat.le_refl, ofVal_nilJ, ofVal_nilP, List.take_length]
    refine hNc _ (VWp.keep [1,15] [1] ?_); simp only [go_sem, Int.reduceEq, Int.reduceLT, Nat.reduceEqDiff, Nat.reduceAdd, Nat.reduceMul, Nat.reduceLT, Nat.reduceLeDiff, Int.reduceToNat, bytesR_len, Nat.le_refl, ofVal_nilJ, ofVal_nilP, List.take_length]
    refine vif rfl ⟨(fun hf => by cases hf), fun hf => ?_⟩
    refine vwp_skip (hNb _ ?_)
    refine vwp_seq_k fun Ne hNe => vreg tt_ok hF rfl ?_; simp only [go_sem, Int.reduceEq, Int.reduceLT, Nat.reduceEqDiff, Nat.reduceAdd, Nat.reduceMul, Nat.reduceLT, Nat.reduceLeDiff, Int.reduceToNat, bytesR_len, Nat.le_refl, ofVal_nilJ, ofVal_nilP, List.take_length]
    refine hNe _ (VWp.keep [1,4] [1,4] ?_); simp only [go_sem, Int.reduceEq, Int.reduceLT, Nat.reduceEqDiff, Nat.reduceAdd, Nat.reduceMul, Nat.reduceLT, Nat.reduceLeDiff, Int.reduceToNat, bytesR_len, Nat.le_refl, ofVal_nilJ, ofVal_nilP, List.take_length]
    refine VWp.adoptB 500002 1 5 (o := 4) (i := 1) rfl rfl rfl (by decide) ?_
    refine VWp.keep [1,4] [1,4,500002] ?_; simp only [go_sem, Int.reduceEq, Int.reduceLT, Nat.reduceEqDiff, Nat.reduceAdd, Nat.reduceMul, Nat.reduceLT, Nat.reduceLeDiff, Int.reduceToNat, bytesR_len, Nat.le_refl, ofVal_nilJ, ofVal_nilP, List.take_length]
    unfold bldO selfV storeW at hline0
    simp only [List.length_nil, List.nil_append, if_false, if_true, Bool.false_eq_true, List.map_cons, List.map_nil, strR] at hline0
    refine vwp_seq_k fun Nf hNf => vreg tt_ok hF rfl ?_; simp only [go_sem, Int.reduceEq, Int.reduceLT, Nat.reduceEqDiff, Nat.reduceAdd, Nat.reduceMul, Nat.reduceLT, Nat.reduceLeDiff, Int.reduceToNat, bytesR_len, Nat.le_refl, ofVal_nilJ, ofVal_nilP, List.take_length]
    refine .inl ⟨_, hito, ?_⟩; try simp only [go_sem, Int.reduceEq, Int.reduceLT, Nat.reduceEqDiff, Nat.reduceAdd, Nat.reduceMul, Nat.reduceLT, Nat.reduceLeDiff, Int.reduceToNat, bytesR_len, Nat.le_refl, ofVal_nilJ, ofVal_nilP, List.take_length]
    refine .inr (bxo [(1000000, 4), (1000002, 500002)] rfl ?_); simp only [go_sem, Int.reduceEq, Int.reduceLT, Nat.reduceEqDiff, Nat.reduceAdd, Nat.reduceMul, Nat.reduceLT, Nat.reduceLeDiff, Int.reduceToNat, bytesR_len, Nat.le_refl, ofVal_nilJ, ofVal_nilP, List.take_length]; refine ⟨_, _, hline0, ?_⟩; try simp only [go_sem, Int.reduceEq, Int.reduceLT, Nat.reduceEqDiff, Nat.reduceAdd, Nat.reduceMul, Nat.reduceLT, Nat.reduceLeDiff, Int.reduceToNat, bytesR_len, Nat.le_refl, ofVal_nilJ, ofVal_nilP, List.take_length]
    refine hNf _ (VWp.keep [1,4] [1,4,500002] ?_); simp only [go_sem, Int.reduceEq, Int.reduceLT, Nat.reduceEqDiff, Nat.reduceAdd, Nat.reduceMul, Nat.reduceLT, Nat.reduceLeDiff, Int.reduceToNat, bytesR_len, Nat.le_refl, ofVal_nilJ, ofVal_nilP, List.take_length]
    refine vwp_seq_k fun Ng hNg => ?_
    refine vwp_seq_k fun Nh hNh => vreg tt_ok hF rfl ?_; simp only [go_sem, Int.reduceEq, Int.reduceLT, Nat.reduceEqDiff, Nat.reduceAdd, Nat.reduceMul, Nat.reduceLT, Nat.reduceLeDiff, Int.reduceToNat, bytesR_len, Nat.le_refl, ofVal_nilJ, ofVal_nilP, List.take_length]
    refine hNh _ (VWp.keep [1,4,22,23,24] [1,4,500002] ?_); simp only [go_sem, Int.reduceEq, Int.reduceLT, Nat.reduceEqDiff, Nat.reduceAdd, Nat.reduceMul, Nat.reduceLT, Nat.reduceLeDiff, Int.reduceToNat, bytesR_len, Nat.le_refl, ofVal_nilJ, ofVal_nilP, List.take_length]
    refine vwp_block ?_
    have hp4 := hv.p4
    have hn16 := hv.n
    refine vloop (fun k : Nat => [(1, .ptr 1 0), (4, .ptr 4 0), (22, .sl 2 (c.ps.map parC)), (23, .int .i64 (c.ps.length : Int)), (24, .int .i64 (k : Int))]) (fun k => [(1, .box 25 [.sl 5 (c.us.map uniC), .int .i64 c.store, .sl 2 (c.ps.map parC)]), (4, .box 79 [.ptr 4 0, .own 500002 (X ++ ((c.ps.take k).map fun p => lineW (partW p)).flatten).length]), (500002, .arr 1 5 (bytesR (X ++ ((c.ps.take k).map fun p => lineW (partW p)).flatten)))]) (fun k => k ≤ c.ps.length) (fun k => c.ps.length - k) 0 (Nat.zero_le _) (by simp only [List.take_zero, List.map_nil, List.flatten_nil, List.append_nil, go_sem, Int.reduceEq, Int.reduceLT, Nat.reduceEqDiff, Nat.reduceAdd, Nat.reduceMul, Nat.reduceLT, Nat.reduceLeDiff, Int.reduceToNat, bytesR_len, Nat.le_refl, ofVal_nilJ, ofVal_nilP, List.take_length]) ?_
    intro k hk
    have hTl := take_bound (fun p => lineW (partW p)) 51 c.ps k hPl
    have hT4 : c.ps.length * 51 ≤ 4 * 51 := Nat.mul_le_mul_right _ hp4
    obtain ⟨T, hT⟩ : ∃ T, X ++ ((c.ps.take k).map fun p => lineW (partW p)).flatten = T := ⟨_, rfl⟩
    have hTb : T.length ≤ 1000 := by rw [← hT, List.length_append]; omega
    rw [hT]
    refine vwp_seq_k fun Ni hNi => vreg tt_ok hF rfl ?_; simp only [go_sem, Int.reduceEq, Int.reduceLT, Nat.reduceEqDiff, Nat.reduceAdd, Nat.reduceMul, Nat.reduceLT, Nat.reduceLeDiff, Int.reduceToNat, bytesR_len, Nat.le_refl, ofVal_nilJ, ofVal_nilP, List.take_length]
    refine hNi _ (VWp.keep [1,4,22,23,24,25] [1,4,500002] ?_); simp only [go_sem, Int.reduceEq, Int.reduceLT, Nat.reduceEqDiff, Nat.reduceAdd, Nat.reduceMul, Nat.reduceLT, Nat.reduceLeDiff, Int.reduceToNat, bytesR_len, Nat.le_refl, ofVal_nilJ, ofVal_nilP, List.take_length]
    refine vwp_seq_k fun Nj hNj => ?_
    refine vif rfl ⟨fun ht => ?_, fun hf => ?_⟩
    · have hlt : k < c.ps.length := by have := of_decide_eq_true ht; omega
      have hget := par_row hlt
      have hpt := hv.p _ (List.getElem_mem hlt)
      have hsz : sizT c.ps[k].size = true := by unfold partT at hpt; simp only [Bool.and_eq_true] at hpt; exact hpt.1.1
      have hsb := size_bound hsz
      have hn1 := Itoa_int c.ps[k].size (by omega) (by omega)
      have hsn := flat_snoc (fun p => lineW (partW p)) c.ps hlt
      have hln := line_T T (partW c.ps[k]) (by omega) (by simp [partW]) (by simp [partW]) (fun x hx => by have := lines_short hv (partW c.ps[k]) (by unfold linesC; exact List.mem_cons_of_mem _ (List.mem_append_left _ (List.mem_map.2 ⟨_, List.getElem_mem hlt, rfl⟩))) x hx; omega)
      have hlw : (partW c.ps[k]).map strR = [[.str [80, 65, 82, 84]], [.str (decI c.ps[k].size)], [.str c.ps[k].cls]] := rfl
      rw [hlw] at hln
      have hT2 : X ++ ((c.ps.take (k + 1)).map fun p => lineW (partW p)).flatten = T ++ lineW (partW c.ps[k]) := by rw [hsn, ← hT, List.append_assoc]
      refine vwp_skip (hNj _ ?_)
      refine vwp_seq_k fun Nk hNk => ?_
      refine vwp_block ?_
      refine vwp_seq_k fun Nl hNl => vreg tt_ok hF rfl ?_; simp only [hget, List.length_map, Int.toNat_natCast, go_sem, Int.reduceEq, Int.reduceLT, Nat.reduceEqDiff, Nat.reduceAdd, Nat.reduceMul, Nat.reduceLT, Nat.reduceLeDiff, Int.reduceToNat, bytesR_len, Nat.le_refl, ofVal_nilJ, ofVal_nilP, List.take_length]
      (repeat (refine ⟨by (try simp only [List.length_append, List.length_cons, List.length_nil]); omega, ?_⟩))
      refine hNl _ (VWp.keep [1,4,6,22,23,24] [1,4,6,500002] ?_); simp only [go_sem, Int.reduceEq, Int.reduceLT, Nat.reduceEqDiff, Nat.reduceAdd, Nat.reduceMul, Nat.reduceLT, Nat.reduceLeDiff, Int.reduceToNat, bytesR_len, Nat.le_refl, ofVal_nilJ, ofVal_nilP, List.take_length]
      refine vregdC (.at [34]) tt_ok mixed hF rfl (by kernel_rfl) (by kernel_rfl) ?_; simp only [go_sem, Int.reduceEq, Int.reduceLT, Nat.reduceEqDiff, Nat.reduceAdd, Nat.reduceMul, Nat.reduceLT, Nat.reduceLeDiff, Int.reduceToNat, bytesR_len, Nat.le_refl, ofVal_nilJ, ofVal_nilP, List.take_length]
      refine .inl ⟨_, hn1, ?_⟩; try simp only [go_sem, Int.reduceEq, Int.reduceLT, Nat.reduceEqDiff, Nat.reduceAdd, Nat.reduceMul, Nat.reduceLT, Nat.reduceLeDiff, Int.reduceToNat, bytesR_len, Nat.le_refl, ofVal_nilJ, ofVal_nilP, List.take_length]
      refine .inr (bxo [(1000000, 4), (1000002, 500002)] rfl ?_); simp only [go_sem, Int.reduceEq, Int.reduceLT, Nat.reduceEqDiff, Nat.reduceAdd, Nat.reduceMul, Nat.reduceLT, Nat.reduceLeDiff, Int.reduceToNat, bytesR_len, Nat.le_refl, ofVal_nilJ, ofVal_nilP, List.take_length]; refine ⟨_, _, hln, ?_⟩; try simp only [go_sem, Int.reduceEq, Int.reduceLT, Nat.reduceEqDiff, Nat.reduceAdd, Nat.reduceMul, Nat.reduceLT, Nat.reduceLeDiff, Int.reduceToNat, bytesR_len, Nat.le_refl, ofVal_nilJ, ofVal_nilP, List.take_length]
      refine hNk _ (VWp.keep [1,4,22,23,24] [1,4,500002] ?_); simp only [go_sem, Int.reduceEq, Int.reduceLT, Nat.reduceEqDiff, Nat.reduceAdd, Nat.reduceMul, Nat.reduceLT, Nat.reduceLeDiff, Int.reduceToNat, bytesR_len, Nat.le_refl, ofVal_nilJ, ofVal_nilP, List.take_length]
      refine vreg tt_ok hF rfl ?_; simp only [go_sem, Int.reduceEq, Int.reduceLT, Nat.reduceEqDiff, Nat.reduceAdd, Nat.reduceMul, Nat.reduceLT, Nat.reduceLeDiff, Int.reduceToNat, bytesR_len, Nat.le_refl, ofVal_nilJ, ofVal_nilP, List.take_length]
      rw [wrap_i64 (by omega) (by omega)]
      exact ⟨k + 1, by omega, by omega, by rw [hT2]; simp⟩
    · have hke : k = c.ps.length := by have := of_decide_eq_false hf; omega
      subst hke
      rw [List.take_length] at hT
      rw [hT]
      refine vwp_exit ?_
      simp only [go_sem, Int.reduceEq, Int.reduceLT, Nat.reduceEqDiff, Nat.reduceAdd, Nat.reduceMul, Nat.reduceLT, Nat.reduceLeDiff, Int.reduceToNat, bytesR_len, Nat.le_refl, ofVal_nilJ, ofVal_nilP, List.take_length]
      refine hNg _ (VWp.keep [1,4] [1,4,500002] ?_); simp only [go_sem, Int.reduceEq, Int.reduceLT, Nat.reduceEqDiff, Nat.reduceAdd, Nat.reduceMul, Nat.reduceLT, Nat.reduceLeDiff, Int.reduceToNat, bytesR_len, Nat.le_refl, ofVal_nilJ, ofVal_nilP, List.take_length]
      refine vwp_seq_k fun Nm hNm => ?_
      refine vwp_seq_k fun Nn hNn => vreg tt_ok hF rfl ?_; simp only [go_sem, Int.reduceEq, Int.reduceLT, Nat.reduceEqDiff, Nat.reduceAdd, Nat.reduceMul, Nat.reduceLT, Nat.reduceLeDiff, Int.reduceToNat, bytesR_len, Nat.le_refl, ofVal_nilJ, ofVal_nilP, List.take_length]
      refine hNn _ (VWp.keep [4,37,38,39] [4,500002] ?_); simp only [go_sem, Int.reduceEq, Int.reduceLT, Nat.reduceEqDiff, Nat.reduceAdd, Nat.reduceMul, Nat.reduceLT, Nat.reduceLeDiff, Int.reduceToNat, bytesR_len, Nat.le_refl, ofVal_nilJ, ofVal_nilP, List.take_length]
      refine vwp_block ?_
      obtain ⟨Y, hY⟩ : ∃ Y, T = Y := ⟨_, rfl⟩
      rw [hY] at hTb ⊢
      refine vloop (fun k : Nat => [(4, .ptr 4 0), (37, .sl 5 (c.us.map uniC)), (38, .int .i64 (c.us.length : Int)), (39, .int .i64 (k : Int))]) (fun k => [(4, .box 79 [.ptr 4 0, .own 500002 (Y ++ ((c.us.take k).map fun u => lineW (unitW u)).flatten).length]), (500002, .arr 1 5 (bytesR (Y ++ ((c.us.take k).map fun u => lineW (unitW u)).flatten)))]) (fun k => k ≤ c.us.length) (fun k => c.us.length - k) 0 (Nat.zero_le _) (by simp only [List.take_zero, List.map_nil, List.flatten_nil, List.append_nil, go_sem, Int.reduceEq, Int.reduceLT, Nat.reduceEqDiff, Nat.reduceAdd, Nat.reduceMul, Nat.reduceLT, Nat.reduceLeDiff, Int.reduceToNat, bytesR_len, Nat.le_refl, ofVal_nilJ, ofVal_nilP, List.take_length]) ?_
      intro k hk
      have hTl2 := take_bound (fun u => lineW (unitW u)) 51 c.us k hUl
      have hT42 : c.us.length * 51 ≤ 16 * 51 := Nat.mul_le_mul_right _ hn16
      obtain ⟨Z, hZ⟩ : ∃ Z, Y ++ ((c.us.take k).map fun u => lineW (unitW u)).flatten = Z := ⟨_, rfl⟩
      have hZb : Z.length ≤ 2000 := by rw [← hZ, List.length_append]; omega
      rw [hZ]
      refine vwp_seq_k fun No hNo => vreg tt_ok hF rfl ?_; simp only [go_sem, Int.reduceEq, Int.reduceLT, Nat.reduceEqDiff, Nat.reduceAdd, Nat.reduceMul, Nat.reduceLT, Nat.reduceLeDiff, Int.reduceToNat, bytesR_len, Nat.le_refl, ofVal_nilJ, ofVal_nilP, List.take_length]
      refine hNo _ (VWp.keep [4,37,38,39,40] [4,500002] ?_); simp only [go_sem, Int.reduceEq, Int.reduceLT, Nat.reduceEqDiff, Nat.reduceAdd, Nat.reduceMul, Nat.reduceLT, Nat.reduceLeDiff, Int.reduceToNat, bytesR_len, Nat.le_refl, ofVal_nilJ, ofVal_nilP, List.take_length]
      refine vwp_seq_k fun Np hNp => ?_
      refine vif rfl ⟨fun ht => ?_, fun hf => ?_⟩
      · have hlt : k < c.us.length := by have := of_decide_eq_true ht; omega
        have hget := uni_row hlt
        have hut := hv.u _ (List.getElem_mem hlt)
        have hsn := flat_snoc (fun u => lineW (unitW u)) c.us hlt
        have hmem : unitW c.us[k] ∈ linesC c := by unfold linesC; exact List.mem_cons_of_mem _ (List.mem_append_right _ (List.mem_map.2 ⟨_, List.getElem_mem hlt, rfl⟩))
        have hln := line_T Z (unitW c.us[k]) (by omega) (by simp [unitW]) (by unfold unitW; split; simp; split <;> simp) (fun x hx => by have := lines_short hv _ hmem x hx; omega)
        have hT2 : Y ++ ((c.us.take (k + 1)).map fun u => lineW (unitW u)).flatten = Z ++ lineW (unitW c.us[k]) := by rw [hsn, ← hZ, List.append_assoc]
        obtain ⟨u, hu⟩ : ∃ u, c.us[k] = u := ⟨_, rfl⟩
        rw [hu] at hget hut hln hT2
        have ha := unit_addr hut
        have hk5 := unit_kind hut
        obtain ⟨n, hn⟩ : ∃ n, u.addr.toNat = n := ⟨_, rfl⟩
        have hn4 : n < 1024 := by omega
        have hna : u.addr = (n : Int) := by omega
        have hfi := FormatInt_spec n hn4
        obtain ⟨hup1, hup2⟩ := upper_low n hn4
        have hup := ToUpper_spec (49 :: low3 n) (by simp [low3]) (fun x hx => of_decide_eq_true (List.all_eq_true.1 hup2 x hx))
        rw [hup1] at hup
        have hwr : IntKind.i64.wrap (4096 + u.addr) = 4096 + (n : Int) := by rw [wrap_i64 (by omega) (by omega), hna]
        refine vwp_skip (hNp _ ?_)
        refine vwp_seq_k fun Nq hNq => ?_
        refine vwp_block ?_
        refine vwp_seq_k fun Nr hNr => vreg tt_ok hF rfl ?_; simp only [hget, List.length_map, Int.toNat_natCast, go_sem, Int.reduceEq, Int.reduceLT, Nat.reduceEqDiff, Nat.reduceAdd, Nat.reduceMul, Nat.reduceLT, Nat.reduceLeDiff, Int.reduceToNat, bytesR_len, Nat.le_refl, ofVal_nilJ, ofVal_nilP, List.take_length]
        (repeat (refine ⟨by (try simp only [List.length_append, List.length_cons, List.length_nil]); omega, ?_⟩))
        refine hNr _ (VWp.keepR [4,8,37,38,39] [4,8,500002] tt_ok hF rfl fun Ns hNs => ?_); simp only [go_sem, Int.reduceEq, Int.reduceLT, Nat.reduceEqDiff, Nat.reduceAdd, Nat.reduceMul, Nat.reduceLT, Nat.reduceLeDiff, Int.reduceToNat, bytesR_len, Nat.le_refl, ofVal_nilJ, ofVal_nilP, List.take_length]
        simp only [hwr]
        refine .inl ⟨_, hfi, ?_⟩; try simp only [go_sem, Int.reduceEq, Int.reduceLT, Nat.reduceEqDiff, Nat.reduceAdd, Nat.reduceMul, Nat.reduceLT, Nat.reduceLeDiff, Int.reduceToNat, bytesR_len, Nat.le_refl, ofVal_nilJ, ofVal_nilP, List.take_length]
        refine .inl ⟨_, hup, ?_⟩; try simp only [go_sem, Int.reduceEq, Int.reduceLT, Nat.reduceEqDiff, Nat.reduceAdd, Nat.reduceMul, Nat.reduceLT, Nat.reduceLeDiff, Int.reduceToNat, bytesR_len, Nat.le_refl, ofVal_nilJ, ofVal_nilP, List.take_length]
        (repeat (refine ⟨by (try simp only [List.length_append, List.length_cons, List.length_nil]); omega, ?_⟩))
        try simp only [hget, List.length_cons, Int.toNat_natCast, go_sem, Int.reduceEq, Int.reduceLT, Nat.reduceEqDiff, Nat.reduceAdd, Nat.reduceMul, Nat.reduceLT, Nat.reduceLeDiff, Int.reduceToNat, bytesR_len, Nat.le_refl, ofVal_nilJ, ofVal_nilP, List.take_length]
        (repeat (refine ⟨by (try simp only [List.length_append, List.length_cons, List.length_nil]); omega, ?_⟩))
        refine hNs _ (VWp.keepR [4,8,9,37,38,39] [4,8,500002] tt_ok hF rfl fun Nt hNt => ?_); simp only [go_sem, Int.reduceEq, Int.reduceLT, Nat.reduceEqDiff, Nat.reduceAdd, Nat.reduceMul, Nat.reduceLT, Nat.reduceLeDiff, Int.reduceToNat, bytesR_len, Nat.le_refl, ofVal_nilJ, ofVal_nilP, List.take_length]
        refine hNt _ (VWp.keep [4,8,9,10,37,38,39] [4,8,500002] ?_); simp only [go_sem, Int.reduceEq, Int.reduceLT, Nat.reduceEqDiff, Nat.reduceAdd, Nat.reduceMul, Nat.reduceLT, Nat.reduceLeDiff, Int.reduceToNat, bytesR_len, Nat.le_refl, ofVal_nilJ, ofVal_nilP, List.take_length]
        refine vwp_seq_k fun Nu hNu => VWp.by2 [4, 8, 9, 37, 38, 39] [(10, .str (kndS u.kind))] (fun p hp => by rw [List.mem_singleton] at hp; subst hp; rfl) ?_ ?_
        · intro β a W hs
          have hg := hs.objs.base.gcNow.2
          have f8 : a.tmps.getD 8 undef = .pointer (some ⟨β.pb 8, 0, none⟩) := hs.frame 8
          have f10 : a.tmps.getD 10 undef = .string ⟨#[]⟩ := hs.frame 10
          obtain ⟨_, cs, rest, hrow, _, hrep⟩ := hs.objs.box 8 _ _ rfl
          obtain ⟨c0, cs, rfl, _, c1, cs, rfl, q1, hrep⟩ := hrep
          have q1 : c1 = .int .i64 u.kind := q1
          subst q1
          have hc : W.cell? ⟨β.pb 8, 1, none⟩ = some (.int .i64 u.kind) := by rw [Lib.cell_of_heap hrow]; rfl
          have hsz : a.tmps.size = 91 := by rw [hs.size, hF]
          obtain ⟨tm, df⟩ := a
          simp only at f8 f10 hsz
          obtain ⟨g, hg1, hg2⟩ := frame91 tm hsz
          rw [hg2] at f8 f10
          simp only [hg2]
          rw [hg1, f8, f10]
          clear hs hrow hg1
          go_wp2_with (go_at_call 40; refine (kinds_any W hg).mono ?_; rintro e w1 ⟨bm, rfl, hcg, hmap⟩; have hrg := run_range_map (P := Tryz.prog) w1 82 9 3 bm kndE 5 Tryz.underlying82 hmap)
          have hbm : bm < w1.heap.size := (Array.getElem?_eq_some_iff.1 hmap).1
          have hsz1 := hcg.size
          go_loopw [10] (fun s wr => ∃ seen : Array Nat, s = .string ⟨(pickS u.kind seen).toArray⟩ ∧ wr.heap[w1.heap.size]? = some (.mapIter (some bm) 5 seen 5) ∧ wr.heap[bm]? = some (.map kndE 5) ∧ Chg [] W wr) (fun _ wr => (leftOf kndE (wr.iterSeen w1.heap.size)).size)
          case atStart => exact ⟨#[], by simp [pickS], heap_alloc_new w1 _, (Lib.alloc_old w1 _ _ hbm).trans hmap, hcg.trans (Chg.alloc _ _ _)⟩
          case round =>
            obtain ⟨seen, rfl, hr, hb, hcw⟩ := hrel
            have hcell : wr.cell? ⟨β.pb 8, 1, none⟩ = some (.int .i64 u.kind) := hcw.cell hc (by simp)
            have hold : ∀ x ∈ kndE.toList, x.born < 5 := fun x hx => by obtain ⟨j, hj, rfl⟩ := kndE_mem hx; exact hj
            have law := run_next_at (P := Tryz.prog) wr 0 w1.heap.size bm 5 5 seen kndE 5 hr hb hold (Nat.le_refl _)
            rcases law with ⟨h0, hrun⟩ | ⟨e, he, w2, hal, hrun⟩
            · have hnx : ∀ ty, (Instr.next (.pointer (some ⟨w1.heap.size, 0, none⟩)) false ty).run Tryz.prog wr = _ := fun _ => hrun
              go_wp2
              rw [all_seen_knd hk5 h0]
              rfl
            · obtain ⟨he1, he2⟩ := mem_left he
              obtain ⟨j, hj, rfl⟩ := kndE_mem he1
              have hnx : ∀ ty, (Instr.next (.pointer (some ⟨w1.heap.size, 0, none⟩)) false ty).run Tryz.prog wr = _ := fun _ => hrun
              have hr2 := setBlock_at (o := .mapIter (some bm) 5 (seen.push j) 5) hr hal
              have hb2 := setBlock_ne (o := .mapIter (some bm) 5 (seen.push j) 5) hb hal (by omega : w1.heap.size ≠ bm)
              have hcw2 := chg_setBlock (o := .mapIter (some bm) 5 (seen.push j) 5) hcw hal hsz1
              have hcell2 : (Go.ChangeMaps.setBlock w2 w1.heap.size (.mapIter (some bm) 5 (seen.push j) 5)).cell? ⟨β.pb 8, 1, none⟩ = some (.int .i64 u.kind) := hcw2.cell hc (by simp)
              have hen := run_entry_at (P := Tryz.prog) _ w1.heap.size bm 5 seen kndE 5 _ hr2 hb2 he1 (by decide)
              by_cases hkk : (j : Int) + 1 = u.kind
              · have hdd : decide ((j : Int) + 1 = u.kind) = true := decide_eq_true hkk
                go_wp2
                exact knd_round (e := _) (by rw [pick_hit hkk seen]) hr hr2 hb2 hcw2 rfl he
              · have hdd : decide ((j : Int) + 1 = u.kind) = false := decide_eq_false hkk
                go_wp2
                exact knd_round (e := _) (by rw [pick_miss hk5.1 hkk seen]) hr hr2 hb2 hcw2 rfl he
        · refine hNu _ (VWp.keep [4,8,9,10,37,38,39] [4,8,500002] ?_); simp only [List.cons_append, List.nil_append, go_sem, Int.reduceEq, Int.reduceLT, Nat.reduceEqDiff, Nat.reduceAdd, Nat.reduceMul, Nat.reduceLT, Nat.reduceLeDiff, Int.reduceToNat, bytesR_len, Nat.le_refl, ofVal_nilJ, ofVal_nilP, List.take_length]
          refine vwp_seq_k fun Naa hNaa => vreg tt_ok hF rfl ?_; simp only [go_sem, Int.reduceEq, Int.reduceLT, Nat.reduceEqDiff, Nat.reduceAdd, Nat.reduceMul, Nat.reduceLT, Nat.reduceLeDiff, Int.reduceToNat, bytesR_len, Nat.le_refl, ofVal_nilJ, ofVal_nilP, List.take_length]
          refine hNaa _ (VWp.keep [4,8,9,10,37,38,39,62] [4,8,500002] ?_); simp only [go_sem, Int.reduceEq, Int.reduceLT, Nat.reduceEqDiff, Nat.reduceAdd, Nat.reduceMul, Nat.reduceLT, Nat.reduceLeDiff, Int.reduceToNat, bytesR_len, Nat.le_refl, ofVal_nilJ, ofVal_nilP, List.take_length]
          have h3x : (hex3 n).length = 3 := rfl
          obtain ⟨H, hH⟩ : ∃ H, hex3 n = H := ⟨_, rfl⟩
          have hnu : hex3 u.addr.toNat = H := by rw [hn, hH]
          rw [hH] at h3x ⊢
          refine vwp_block ?_
          by_cases e4 : u.kind = 4
          · have hd4 : decide (u.kind = 4) = true := decide_eq_true e4
            have hlw : (unitW u).map strR = [[.str [85, 78, 73, 84]], [.str H], [.str (kndS u.kind)], [.str u.ser]] := by unfold unitW; rw [if_pos e4, hnu]; rfl
            rw [hlw] at hln
            refine vwp_seq_k fun Nab hNab => vreg tt_ok hF rfl ?_; simp only [go_sem, Int.reduceEq, Int.reduceLT, Nat.reduceEqDiff, Nat.reduceAdd, Nat.reduceMul, Nat.reduceLT, Nat.reduceLeDiff, Int.reduceToNat, bytesR_len, Nat.le_refl, ofVal_nilJ, ofVal_nilP, List.take_length]
            simp only [hd4]
            refine hNab _ (VWp.keep [4,8,9,10,37,38,39,62,67] [4,8,500002] ?_); simp only [go_sem, Int.reduceEq, Int.reduceLT, Nat.reduceEqDiff, Nat.reduceAdd, Nat.reduceMul, Nat.reduceLT, Nat.reduceLeDiff, Int.reduceToNat, bytesR_len, Nat.le_refl, ofVal_nilJ, ofVal_nilP, List.take_length]
            refine vif rfl ⟨fun ht => ?_, (fun hf => by cases hf)⟩
            refine vreg tt_ok hF rfl ?_; simp only [go_sem, Int.reduceEq, Int.reduceLT, Nat.reduceEqDiff, Nat.reduceAdd, Nat.reduceMul, Nat.reduceLT, Nat.reduceLeDiff, Int.reduceToNat, bytesR_len, Nat.le_refl, ofVal_nilJ, ofVal_nilP, List.take_length]
            refine .inr (bxo [(1000000, 4), (1000002, 500002)] rfl ?_); simp only [go_sem, Int.reduceEq, Int.reduceLT, Nat.reduceEqDiff, Nat.reduceAdd, Nat.reduceMul, Nat.reduceLT, Nat.reduceLeDiff, Int.reduceToNat, bytesR_len, Nat.le_refl, ofVal_nilJ, ofVal_nilP, List.take_length]; refine ⟨_, _, hln, ?_⟩; try simp only [go_sem, Int.reduceEq, Int.reduceLT, Nat.reduceEqDiff, Nat.reduceAdd, Nat.reduceMul, Nat.reduceLT, Nat.reduceLeDiff, Int.reduceToNat, bytesR_len, Nat.le_refl, ofVal_nilJ, ofVal_nilP, List.take_length]
            refine hNq _ (VWp.keep [4,37,38,39] [4,500002] ?_); simp only [go_sem, Int.reduceEq, Int.reduceLT, Nat.reduceEqDiff, Nat.reduceAdd, Nat.reduceMul, Nat.reduceLT, Nat.reduceLeDiff, Int.reduceToNat, bytesR_len, Nat.le_refl, ofVal_nilJ, ofVal_nilP, List.take_length]
            refine vreg tt_ok hF rfl ?_; simp only [go_sem, Int.reduceEq, Int.reduceLT, Nat.reduceEqDiff, Nat.reduceAdd, Nat.reduceMul, Nat.reduceLT, Nat.reduceLeDiff, Int.reduceToNat, bytesR_len, Nat.le_refl, ofVal_nilJ, ofVal_nilP, List.take_length]
            rw [wrap_i64 (by omega) (by omega)]
            exact ⟨k + 1, by omega, by omega, by rw [hT2]; simp⟩
          · have hd4 : decide (u.kind = 4) = false := decide_eq_false e4
            refine vwp_seq_k fun Nab hNab => vreg tt_ok hF rfl ?_; simp only [go_sem, Int.reduceEq, Int.reduceLT, Nat.reduceEqDiff, Nat.reduceAdd, Nat.reduceMul, Nat.reduceLT, Nat.reduceLeDiff, Int.reduceToNat, bytesR_len, Nat.le_refl, ofVal_nilJ, ofVal_nilP, List.take_length]
            simp only [hd4]
            refine hNab _ (VWp.keep [4,8,9,10,37,38,39,62,67] [4,8,500002] ?_); simp only [go_sem, Int.reduceEq, Int.reduceLT, Nat.reduceEqDiff, Nat.reduceAdd, Nat.reduceMul, Nat.reduceLT, Nat.reduceLeDiff, Int.reduceToNat, bytesR_len, Nat.le_refl, ofVal_nilJ, ofVal_nilP, List.take_length]
            refine vif rfl ⟨(fun hf => by cases hf), fun ht => ?_⟩
            by_cases e5 : u.kind = 5
            · have hd5 : decide (u.kind = 5) = true := decide_eq_true e5
              obtain ⟨x1, x2, x3, x4, x5⟩ := unit_disk hut e5
              have hi1 := Itoa_int u.cyl (by omega) (by omega)
              have hi2 := Itoa_int u.head (by omega) (by omega)
              have hlw : (unitW u).map strR = [[.str [85, 78, 73, 84]], [.str H], [.str (kndS u.kind)], [.str u.ser], [.str (decI u.cyl)], [.str (decI u.head)]] := by unfold unitW; rw [if_neg e4, if_pos e5, hnu]; rfl
              rw [hlw] at hln
              refine vwp_seq_k fun Nac hNac => vreg tt_ok hF rfl ?_; simp only [go_sem, Int.reduceEq, Int.reduceLT, Nat.reduceEqDiff, Nat.reduceAdd, Nat.reduceMul, Nat.reduceLT, Nat.reduceLeDiff, Int.reduceToNat, bytesR_len, Nat.le_refl, ofVal_nilJ, ofVal_nilP, List.take_length]
              simp only [hd5]
              refine hNac _ (VWp.keep [4,8,9,10,37,38,39,75] [4,8,500002] ?_); simp only [go_sem, Int.reduceEq, Int.reduceLT, Nat.reduceEqDiff, Nat.reduceAdd, Nat.reduceMul, Nat.reduceLT, Nat.reduceLeDiff, Int.reduceToNat, bytesR_len, Nat.le_refl, ofVal_nilJ, ofVal_nilP, List.take_length]
              refine vif rfl ⟨fun ht => ?_, (fun hf => by cases hf)⟩
              refine vregdC (.at [88]) tt_ok mixed hF rfl (by kernel_rfl) (by kernel_rfl) ?_; simp only [go_sem, Int.reduceEq, Int.reduceLT, Nat.reduceEqDiff, Nat.reduceAdd, Nat.reduceMul, Nat.reduceLT, Nat.reduceLeDiff, Int.reduceToNat, bytesR_len, Nat.le_refl, ofVal_nilJ, ofVal_nilP, List.take_length]
              refine .inl ⟨_, hi1, ?_⟩; try simp only [go_sem, Int.reduceEq, Int.reduceLT, Nat.reduceEqDiff, Nat.reduceAdd, Nat.reduceMul, Nat.reduceLT, Nat.reduceLeDiff, Int.reduceToNat, bytesR_len, Nat.le_refl, ofVal_nilJ, ofVal_nilP, List.take_length]
              refine .inl ⟨_, hi2, ?_⟩; try simp only [go_sem, Int.reduceEq, Int.reduceLT, Nat.reduceEqDiff, Nat.reduceAdd, Nat.reduceMul, Nat.reduceLT, Nat.reduceLeDiff, Int.reduceToNat, bytesR_len, Nat.le_refl, ofVal_nilJ, ofVal_nilP, List.take_length]
              refine .inr (bxo [(1000000, 4), (1000002, 500002)] rfl ?_); simp only [go_sem, Int.reduceEq, Int.reduceLT, Nat.reduceEqDiff, Nat.reduceAdd, Nat.reduceMul, Nat.reduceLT, Nat.reduceLeDiff, Int.reduceToNat, bytesR_len, Nat.le_refl, ofVal_nilJ, ofVal_nilP, List.take_length]; refine ⟨_, _, hln, ?_⟩; try simp only [go_sem, Int.reduceEq, Int.reduceLT, Nat.reduceEqDiff, Nat.reduceAdd, Nat.reduceMul, Nat.reduceLT, Nat.reduceLeDiff, Int.reduceToNat, bytesR_len, Nat.le_refl, ofVal_nilJ, ofVal_nilP, List.take_length]
              refine hNq _ (VWp.keep [4,37,38,39] [4,500002] ?_); simp only [go_sem, Int.reduceEq, Int.reduceLT, Nat.reduceEqDiff, Nat.reduceAdd, Nat.reduceMul, Nat.reduceLT, Nat.reduceLeDiff, Int.reduceToNat, bytesR_len, Nat.le_refl, ofVal_nilJ, ofVal_nilP, List.take_length]
              refine vreg tt_ok hF rfl ?_; simp only [go_sem, Int.reduceEq, Int.reduceLT, Nat.reduceEqDiff, Nat.reduceAdd, Nat.reduceMul, Nat.reduceLT, Nat.reduceLeDiff, Int.reduceToNat, bytesR_len, Nat.le_refl, ofVal_nilJ, ofVal_nilP, List.take_length]
              rw [wrap_i64 (by omega) (by omega)]
              exact ⟨k + 1, by omega, by omega, by rw [hT2]; simp⟩
            · have hd5 : decide (u.kind = 5) = false := decide_eq_false e5
              have hlw : (unitW u).map strR = [[.str [85, 78, 73, 84]], [.str H], [.str (kndS u.kind)]] := by unfold unitW; rw [if_neg e4, if_neg e5, hnu]; rfl
              rw [hlw] at hln
              refine vwp_seq_k fun Nac hNac => vreg tt_ok hF rfl ?_; simp only [go_sem, Int.reduceEq, Int.reduceLT, Nat.reduceEqDiff, Nat.reduceAdd, Nat.reduceMul, Nat.reduceLT, Nat.reduceLeDiff, Int.reduceToNat, bytesR_len, Nat.le_refl, ofVal_nilJ, ofVal_nilP, List.take_length]
              simp only [hd5]
              refine hNac _ (VWp.keep [4,8,9,10,37,38,39,75] [4,8,500002] ?_); simp only [go_sem, Int.reduceEq, Int.reduceLT, Nat.reduceEqDiff, Nat.reduceAdd, Nat.reduceMul, Nat.reduceLT, Nat.reduceLeDiff, Int.reduceToNat, bytesR_len, Nat.le_refl, ofVal_nilJ, ofVal_nilP, List.take_length]
              refine vif rfl ⟨(fun hf => by cases hf), fun ht => ?_⟩
              refine vreg tt_ok hF rfl ?_; simp only [go_sem, Int.reduceEq, Int.reduceLT, Nat.reduceEqDiff, Nat.reduceAdd, Nat.reduceMul, Nat.reduceLT, Nat.reduceLeDiff, Int.reduceToNat, bytesR_len, Nat.le_refl, ofVal_nilJ, ofVal_nilP, List.take_length]
              refine .inr (bxo [(1000000, 4), (1000002, 500002)] rfl ?_); simp only [go_sem, Int.reduceEq, Int.reduceLT, Nat.reduceEqDiff, Nat.reduceAdd, Nat.reduceMul, Nat.reduceLT, Nat.reduceLeDiff, Int.reduceToNat, bytesR_len, Nat.le_refl, ofVal_nilJ, ofVal_nilP, List.take_length]; refine ⟨_, _, hln, ?_⟩; try simp only [go_sem, Int.reduceEq, Int.reduceLT, Nat.reduceEqDiff, Nat.reduceAdd, Nat.reduceMul, Nat.reduceLT, Nat.reduceLeDiff, Int.reduceToNat, bytesR_len, Nat.le_refl, ofVal_nilJ, ofVal_nilP, List.take_length]
              refine hNq _ (VWp.keep [4,37,38,39] [4,500002] ?_); simp only [go_sem, Int.reduceEq, Int.reduceLT, Nat.reduceEqDiff, Nat.reduceAdd, Nat.reduceMul, Nat.reduceLT, Nat.reduceLeDiff, Int.reduceToNat, bytesR_len, Nat.le_refl, ofVal_nilJ, ofVal_nilP, List.take_length]
              refine vreg tt_ok hF rfl ?_; simp only [go_sem, Int.reduceEq, Int.reduceLT, Nat.reduceEqDiff, Nat.reduceAdd, Nat.reduceMul, Nat.reduceLT, Nat.reduceLeDiff, Int.reduceToNat, bytesR_len, Nat.le_refl, ofVal_nilJ, ofVal_nilP, List.take_length]
              rw [wrap_i64 (by omega) (by omega)]
              exact ⟨k + 1, by omega, by omega, by rw [hT2]; simp⟩
      · have hke : k = c.us.length := by have := of_decide_eq_false hf; omega
        subst hke
        rw [List.take_length] at hZ
        refine vwp_exit ?_
        simp only [go_sem, Int.reduceEq, Int.reduceLT, Nat.reduceEqDiff, Nat.reduceAdd, Nat.reduceMul, Nat.reduceLT, Nat.reduceLeDiff, Int.reduceToNat, bytesR_len, Nat.le_refl, ofVal_nilJ, ofVal_nilP, List.take_length]
        refine hNm _ (VWp.keep [4] [4,500002] ?_); simp only [go_sem, Int.reduceEq, Int.reduceLT, Nat.reduceEqDiff, Nat.reduceAdd, Nat.reduceMul, Nat.reduceLT, Nat.reduceLeDiff, Int.reduceToNat, bytesR_len, Nat.le_refl, ofVal_nilJ, ofVal_nilP, List.take_length]
        have hZx : Z = X ++ (c.ps.map fun p => lineW (partW p)).flatten ++ (c.us.map fun u => lineW (unitW u)).flatten := by rw [← hZ, ← hY, ← hT]
        have hZn : Z ≠ [] := by rw [hZx, ← hX]; unfold lineW storeW joinW; simp
        rw [← hZx]
        refine vwp_seq_k fun Nz hNz => VWp.last [(2, .str Z), (3, .int .i64 0)] (fun p hp => by rcases List.mem_cons.1 hp with rfl | hp; rfl; rw [List.mem_singleton] at hp; subst hp; rfl) ?_ ?_
        · intro β a W hs
          have f4 : a.tmps.getD 4 undef = .pointer (some ⟨β.pb 4, 0, none⟩) := hs.frame 4
          obtain ⟨_, cs, rest, hrow, _, hrep⟩ := hs.objs.box 4 _ _ rfl
          obtain ⟨c0, cs, rfl, _, c1, cs, rfl, q1, hrep⟩ := hrep
          have q1 := q1.2 (β.sv 500002) (by show (if (bytesR Z).length = Z.length then some (β.sv 500002) else none) = _; rw [if_pos (bytesR_len Z)])
          subst q1
          obtain ⟨_, _, hloc, xs, hown, _, hxs⟩ := hs.objs.arr 500002 _ _ _ rfl
          rw [bytesR_len] at hown
          have hZl : Z.length ≠ 0 := by simpa using hZn
          rcases hown.2 with ⟨_, hz0⟩ | ⟨g, cap, cur, hsv, hbg, hg, hnc, hcm, hcs, htake⟩
          · exact absurd hz0 hZl
          · have hfl : (bytesR Z).flatten = Z.map fun b => V.int .u8 (b.toNat : Int) := bytesR_flat Z
            rw [hfl] at hxs
            have hxs2 := repL_bytes hxs
            rw [hsv] at hrow
            have hc1 : W.cell? ⟨β.pb 4, 1, none⟩ = some (.slice (some ⟨g, 0, none⟩) Z.length cap) := by rw [Lib.cell_of_heap hrow]; rfl
            have hcell : ∀ j x, Z[j]? = some x → W.cell? ⟨g, j, none⟩ = some (.int .u8 x.toNat) := fun j x hx => by
              have hj := (List.getElem?_eq_some_iff.1 hx).1
              rw [Lib.cell_of_heap hg]
              have h1 : (cur.toList.take (Z.length * 1))[j]? = some (.int .u8 x.toNat) := by
                rw [htake, hxs2, List.getElem?_map, hx]; rfl
              rw [List.getElem?_take_of_lt (by omega)] at h1
              rw [← Array.getElem?_toList]; exact h1
            have hcall := String_own (β.pb 4) g cap Z hZn cur W hc1 hg hnc (by omega) hcm hcell
            have hgl : g ∈ F.L ∨ F.w0.heap.size ≤ g := hloc g (by rw [hsv]; rfl)
            have hsz : a.tmps.size = 91 := by rw [hs.size, hF]
            obtain ⟨tm, df⟩ := a
            simp only at f4 hsz
            obtain ⟨gg, hg1, hg2⟩ := frame91 tm hsz
            rw [hg2] at f4
            rw [hg1, f4]
            clear hs hg1 hrow hsv
            go_wp2_with (go_at_call 41; refine hcall.mono ?_; rintro e w1 ⟨rfl, rfl⟩)
            rename_i heq
            injection heq with heq
            subst heq
            refine ⟨rfl, rfl, rfl, ⟨g, freeze_chg W g _, hgl, cur, 5, (0, 0), hg⟩, fun x u h => by rw [freeze_cell]; exact h, fun i => ?_⟩
            by_cases e2 : i = 2
            · subst e2; exact rfl
            · by_cases e3 : i = 3
              · subst e3; exact rfl
              · have : lkD [(2, V.str Z), (3, V.int .i64 0)] i = none := by unfold lkD lkD lkD; rw [if_neg e2, if_neg e3]
                rw [this]
                trivial
        · refine hNz _ (VWp.keep [2,3] [] ?_); simp only [go_sem, Int.reduceEq, Int.reduceLT, Nat.reduceEqDiff, Nat.reduceAdd, Nat.reduceMul, Nat.reduceLT, Nat.reduceLeDiff, Int.reduceToNat, bytesR_len, Nat.le_refl, ofVal_nilJ, ofVal_nilP, List.take_length]
          (refine vwp_ret ?_; simp only [go_sem, Int.reduceEq, Int.reduceLT, Nat.reduceEqDiff, Nat.reduceAdd, Nat.reduceMul, Nat.reduceLT, Nat.reduceLeDiff, Int.reduceToNat, bytesR_len, Nat.le_refl, ofVal_nilJ, ofVal_nilP, List.take_length]; first | exact LeV.refl _ | exact LeV.of_eq (by simp))
  · rw [if_neg (by omega), hz]
    rw [hz] at hck
    unfold cfgC at hck ⊢
    refine spec_of tt_ok Tryz.func17 rfl (by decide) Tryz.ntmps17 (congrArg Array.toList Tryz.results17) (by simp) (by decide) rfl rfl (fun F hF => ?_)
    refine vwp_seq_k fun Na hNa => vreg tt_ok hF rfl ?_; simp only [go_sem, Int.reduceEq, Int.reduceLT, Nat.reduceEqDiff, Nat.reduceAdd, Nat.reduceMul, Nat.reduceLT, Nat.reduceLeDiff, Int.reduceToNat, bytesR_len, Nat.le_refl, ofVal_nilJ, ofVal_nilP, List.take_length]
    refine hNa _ (VWp.keep [1] [1] ?_); simp only [go_sem, Int.reduceEq, Int.reduceLT, Nat.reduceEqDiff, Nat.reduceAdd, Nat.reduceMul, Nat.reduceLT, Nat.reduceLeDiff, Int.reduceToNat, bytesR_len, Nat.le_refl, ofVal_nilJ, ofVal_nilP, List.take_length]
    refine vwp_seq_k fun Nb hNb => ?_
    refine vwp_seq_k fun Nc hNc => vreg tt_ok hF rfl ?_; simp only [go_sem, Int.reduceEq, Int.reduceLT, Nat.reduceEqDiff, Nat.reduceAdd, Nat.reduceMul, Nat.reduceLT, Nat.reduceLeDiff, Int.reduceToNat, bytesR_len, Nat.le_refl, ofVal_nilJ, ofVal_nilP, List.take_length]
    refine .inl ⟨_, hck, ?_⟩; try simp only [go_sem, Int.reduceEq, Int.reduceLT, Nat.reduceEqDiff, Nat.reduceAdd, Nat.reduceMul, Nat.reduceLT, Nat.reduceLeDiff, Int.reduceToNat, bytesR_len, Nat.le_refl, ofVal_nilJ, ofVal_nilP, List.take_length]
    refine hNc _ (VWp.keep [1,15] [1] ?_); simp only [go_sem, Int.reduceEq, Int.reduceLT, Nat.reduceEqDiff, Nat.reduceAdd, Nat.reduceMul, Nat.reduceLT, Nat.reduceLeDiff, Int.reduceToNat, bytesR_len, Nat.le_refl, ofVal_nilJ, ofVal_nilP, List.take_length]
    refine vif rfl ⟨fun ht => ?_, (fun hf => by cases hf)⟩
    refine vwp_seq_k fun Nd hNd => vreg tt_ok hF rfl ?_; simp only [go_sem, Int.reduceEq, Int.reduceLT, Nat.reduceEqDiff, Nat.reduceAdd, Nat.reduceMul, Nat.reduceLT, Nat.reduceLeDiff, Int.reduceToNat, bytesR_len, Nat.le_refl, ofVal_nilJ, ofVal_nilP, List.take_length]
    refine hNd _ (VWp.keep [2,3] [] ?_); simp only [go_sem, Int.reduceEq, Int.reduceLT, Nat.reduceEqDiff, Nat.reduceAdd, Nat.reduceMul, Nat.reduceLT, Nat.reduceLeDiff, Int.reduceToNat, bytesR_len, Nat.le_refl, ofVal_nilJ, ofVal_nilP, List.take_length]
    refine vwp_ret ?_
    simp only [go_sem, Int.reduceEq, Int.reduceLT, Nat.reduceEqDiff, Nat.reduceAdd, Nat.reduceMul, Nat.reduceLT, Nat.reduceLeDiff, Int.reduceToNat, bytesR_len, Nat.le_refl, ofVal_nilJ, ofVal_nilP, List.take_length]
    exact LeV.refl _
end Go.Proofs.YtedbbinlcdgkoaaGreatDoor
