/- Decode of layer 3. -/
import Derived.BigRegion
import Derived.Deep.LoopGhost
import Derived.StillTailTactics
import Derived.RegionTactic
import Derived.Deep.CutRange
import Derived.Deep.QuietTactic
import Derived.BigQuiet
import Derived.Test.YtmklkfogddppmaaDoorKOffH
import Derived.Test.YtmklkfogddppmaaDoorKDecA
namespace Go.Proofs.YtmklkfogddppmaaDoor
open Go.RowKit Go.Shelf
set_option linter.unusedVariables false

attribute [local go_sem] Oper.semAt_some

theorem signs_any (w : World) : Calls Tryd.prog 75 #[] w fun e w' => e = .returned (.agg #[.int .i8 0, .int .i8 0, .int .i8 0, .int .i8 0, .int .i8 0, .int .i8 0, .int .i8 0, .int .i8 0, .int .i8 0, .int .i8 0, .int .i8 1, .int .i8 2, .int .i8 1, .int .i8 2, .int .i8 1, .int .i8 1]) ∧ Chg [] w w' := by
  go_enter Tryd.func75, Tryd.ntmps75
  go_wp2
  go_returns
  exact ⟨rfl, Chg.alloc _ _ _⟩

/-- the table of signs -/
def sgt : Array Value := #[.int .i8 0, .int .i8 0, .int .i8 0, .int .i8 0, .int .i8 0, .int .i8 0, .int .i8 0, .int .i8 0, .int .i8 0, .int .i8 0, .int .i8 1, .int .i8 2, .int .i8 1, .int .i8 2, .int .i8 1, .int .i8 1]
theorem sgt_get : ∀ x : Nat, x < 16 → sgt[x]? = some (.int .i8 (sgnT x))
  | 0, _ => rfl | 1, _ => rfl | 2, _ => rfl | 3, _ => rfl | 4, _ => rfl | 5, _ => rfl | 6, _ => rfl | 7, _ => rfl
  | 8, _ => rfl | 9, _ => rfl | 10, _ => rfl | 11, _ => rfl | 12, _ => rfl | 13, _ => rfl | 14, _ => rfl | 15, _ => rfl
  | n + 16, h => by omega

/-- The blocks of Decode: the two results (h, h + 1), the text's row and slice, the sign (Sg), the place (At), the table (T). -/
structure De (W : World) (h Sg At T n : Nat) (s a : Int) (txt : Bs) : Prop where
  res : W.heap[h]? = some (.cells #[.bool false, .string ⟨#[]⟩] 70 (0, 0))
  ok : W.heap[h + 1]? = some (.cells #[.bool false] 4 (0, 0))
  row : W.heap[h + 1 + 1]? = some (.cells (txt.map eb).toArray 5 (0, 0))
  out : W.heap[h + 1 + 1 + 1]? = some (.cells #[.slice (some ⟨h + 1 + 1, 0, none⟩) n n] 22 (0, 0))
  sg : W.heap[Sg]? = some (.cells #[.int .i8 s] 87 (0, 0))
  at_ : W.heap[At]? = some (.cells #[.int .i64 a] 3 (0, 0))
  tab : W.heap[T]? = some (.cells sgt 88 (0, 0))

theorem De.turn {W W' : World} {row : Option Nat} {B h Sg At T n : Nat} {s a : Int} {r : Bs} (u : De W h Sg At T n s a r) (hg : W.grownBy W' row)
    (hr : ∀ r, row = some r → B ≤ r ∧ ∃ o : Obj, W.heap[r]? = some o ∧ o.isCells = false) : De W' h Sg At T n s a r :=
  ⟨heap_turn u.res hg hr, heap_turn u.ok hg hr, heap_turn u.row hg hr, heap_turn u.out hg hr, heap_turn u.sg hg hr, heap_turn u.at_ hg hr, heap_turn u.tab hg hr⟩

/-- The sign after the digits pre, and what they are. -/
def DeP (pre : List (Fin 16)) (s : Int) : Prop :=
  pre = [] ∧ s = -1 ∨ pre ≠ [] ∧ 10 ≤ (pre.map Fin.val).getD 0 0 ∧ s = sgnT ((pre.map Fin.val).getD 0 0) ∧ ∀ q ∈ (pre.map Fin.val).tail, q ≤ 9
theorem DeP.first {x : Fin 16} (h : ¬ x.val < 10) : DeP [x] (sgnT x.val) := .inr ⟨by simp, by simp; omega, rfl, by simp⟩
theorem DeP.step {pre : List (Fin 16)} {s : Int} (h : DeP pre s) (hne : pre ≠ []) {x : Fin 16} (hx : ¬ 9 < x.val) : DeP (pre ++ [x]) s := by
  rcases h with ⟨h, _⟩ | ⟨_, h1, h2, h3⟩
  · exact absurd h hne
  · have hl : 0 < pre.length := List.length_pos_iff.2 hne
    have hA0 : ((pre ++ [x]).map Fin.val).getD 0 0 = (pre.map Fin.val).getD 0 0 := by rw [List.map_append, List.map_singleton, getD_snoc, if_neg (by simp; omega)]
    refine .inr ⟨by simp, by rw [hA0]; exact h1, by rw [hA0]; exact h2, fun q hq => ?_⟩
    rw [List.map_append, List.map_singleton, List.tail_append_of_ne_nil (by simpa using hne)] at hq
    rcases List.mem_append.1 hq with hq | hq
    · exact h3 q hq
    · simp at hq; omega

theorem fin_good {W : World} {h : Nat} (b : Bool) (t : Array UInt8) (u0 : W.heap[h]? = some (.cells #[.bool false, .string ⟨#[]⟩] 70 (0, 0))) (u1 : W.heap[h + 1]? = some (.cells #[.bool false] 4 (0, 0))) :
    (((W.setCell ⟨h, 0, none⟩ (.bool b)).setCell ⟨h, 1, none⟩ (.string ⟨t⟩)).setCell ⟨h + 1, 0, none⟩ (.bool true)).heap[h]? = some (.cells #[.bool b, .string ⟨t⟩] 70 (0, 0)) ∧
    (((W.setCell ⟨h, 0, none⟩ (.bool b)).setCell ⟨h, 1, none⟩ (.string ⟨t⟩)).setCell ⟨h + 1, 0, none⟩ (.bool true)).heap[h + 1]? = some (.cells #[.bool true] 4 (0, 0)) ∧
    Chg [h, h + 1] W (((W.setCell ⟨h, 0, none⟩ (.bool b)).setCell ⟨h, 1, none⟩ (.string ⟨t⟩)).setCell ⟨h + 1, 0, none⟩ (.bool true)) := by
  refine ⟨?_, ?_, ((Chg.setCell _ (.inl (by simp)) _).trans (Chg.setCell _ (.inl (by simp)) _)).trans (Chg.setCell _ (.inl (by simp)) _)⟩
  · rw [heap_setCell_other _ _ h _ (by simp)]
    exact heap_setCell_same _ h 1 _ _ _ (heap_setCell_same W h 0 _ _ _ u0)
  · exact one_setCell ((heap_setCell_other _ _ (h + 1) _ (by simp)).trans ((heap_setCell_other W _ (h + 1) _ (by simp)).trans u1))

section
variable {W : World} {h Sg At T n : Nat} {s a : Int} {txt : Bs} (u : De W h Sg At T n s a txt) (g1 : h + 4 ≤ Sg) (g2 : h + 4 ≤ At) (g5 : Sg ≠ At) (g6 : Sg < T) (g7 : At < T)
include u
theorem De.fail : (((W.setCell ⟨h, 0, none⟩ (.bool false)).setCell ⟨h, 1, none⟩ (.string ⟨#[]⟩)).setCell ⟨h + 1, 0, none⟩ (.bool false)).heap[h]? = some (.cells #[.bool false, .string ⟨#[]⟩] 70 (0, 0)) ∧
    (((W.setCell ⟨h, 0, none⟩ (.bool false)).setCell ⟨h, 1, none⟩ (.string ⟨#[]⟩)).setCell ⟨h + 1, 0, none⟩ (.bool false)).heap[h + 1]? = some (.cells #[.bool false] 4 (0, 0)) ∧
    Chg [h, h + 1] W (((W.setCell ⟨h, 0, none⟩ (.bool false)).setCell ⟨h, 1, none⟩ (.string ⟨#[]⟩)).setCell ⟨h + 1, 0, none⟩ (.bool false)) ∧
    KeepsOthers W (((W.setCell ⟨h, 0, none⟩ (.bool false)).setCell ⟨h, 1, none⟩ (.string ⟨#[]⟩)).setCell ⟨h + 1, 0, none⟩ (.bool false)) := by
  refine ⟨?_, ?_, ((Chg.setCell _ (.inl (by simp)) _).trans (Chg.setCell _ (.inl (by simp)) _)).trans (Chg.setCell _ (.inl (by simp)) _), ((KeepsOthers.setCell _ _ _).trans (KeepsOthers.setCell _ _ _)).trans (KeepsOthers.setCell _ _ _)⟩
  · rw [heap_setCell_other _ _ h _ (by simp)]
    exact heap_setCell_same _ h 1 _ _ _ (heap_setCell_same W h 0 _ _ _ u.res)
  · exact one_setCell ((heap_setCell_other _ _ (h + 1) _ (by simp)).trans ((heap_setCell_other W _ (h + 1) _ (by simp)).trans u.ok))
include g1 g5 g6
theorem De.setSg (s' : Int) : De (W.setCell ⟨Sg, 0, none⟩ (.int .i8 s')) h Sg At T n s' a txt ∧ Chg [Sg] W (W.setCell ⟨Sg, 0, none⟩ (.int .i8 s')) := by
  have hch : Chg [Sg] W (W.setCell ⟨Sg, 0, none⟩ (.int .i8 s')) := Chg.setCell W (.inl (by simp)) _
  exact ⟨⟨hch.heap u.res (by simp; omega), hch.heap u.ok (by simp; omega), hch.heap u.row (by simp; omega), hch.heap u.out (by simp; omega), one_setCell u.sg, hch.heap u.at_ (by simp; omega), hch.heap u.tab (by simp; omega)⟩, hch⟩
include g2 g7
omit g6 in
theorem De.setAt (a' : Int) (i : Nat) (y : UInt8) :
    De ((W.setCell ⟨At, 0, none⟩ (.int .i64 a')).setCell ⟨h + 1 + 1, i, none⟩ (eb y)) h Sg At T n s a' (txt.set i y) ∧ Chg [At, h + 1 + 1] W ((W.setCell ⟨At, 0, none⟩ (.int .i64 a')).setCell ⟨h + 1 + 1, i, none⟩ (eb y)) := by
  have hch : Chg [At, h + 1 + 1] W ((W.setCell ⟨At, 0, none⟩ (.int .i64 a')).setCell ⟨h + 1 + 1, i, none⟩ (eb y)) := (Chg.setCell W (.inl (by simp)) _).trans (Chg.setCell _ (.inl (by simp)) _)
  refine ⟨⟨hch.heap u.res (by simp; omega), hch.heap u.ok (by simp; omega), ?_, hch.heap u.out (by simp; omega), hch.heap u.sg (by simp; omega), ?_, hch.heap u.tab (by simp; omega)⟩, hch⟩
  · exact (heap_setCell_same _ (h + 1 + 1) i _ _ (eb y) ((heap_setCell_other W _ (h + 1 + 1) _ (by simp; omega)).trans u.row)).trans (by rw [rows_set])
  · rw [heap_setCell_other _ _ At _ (by simp; omega)]
    exact one_setCell u.at_
end

set_option maxRecDepth 100000 in
set_option maxHeartbeats 2000000 in
theorem Decode_in (w : World) (cb cof ccap M : Nat) (src : Go.Proofs.YtmklkfogddppmaaDoor.Bs) (hM : src.length = M) (hM1 : 1 ≤ M) (hM2 : M ≤ 16) (hc2 : M ≤ ccap)
    (HD : Hid (∀ i, i < M → w.cell? ⟨cb, cof + i, none⟩ = some (.int .u8 (bN src i : Nat)))) :
    CallsIn Fence.wide 6 Tryd.prog 54 #[.slice (some ⟨cb, cof, none⟩) M ccap] w fun e w' =>
      e = .returned (.tuple #[.agg #[.bool (decS src).1.1, .string ⟨(decS src).1.2.toArray⟩], .bool (decS src).2]) ∧ Chg [] w w' := by
  have h2 : okSize M = true := by unfold okSize; simp; omega
  have hmk := mk_bytes (P := Tryd.prog) 22 5 Tryd.underlying22 info_u8 (2 * M - 1) (by omega)
  rw [show ((2 * M - 1 : Nat) : Int) = 2 * (M : Int) - 1 from by omega] at hmk
  refine callsIn_of_wp_marks Tryd.func54 rfl trivial ?_ rfl
  simp only [Tryd.ntmps54, List.size_toArray, List.length_cons, List.length_nil, Nat.reduceAdd, Nat.reduceSub, Array.replicate_succ, Array.replicate_zero, List.push_toArray, List.append_toArray, List.nil_append, List.cons_append]
  refine wpIn_wide.2 ?_
  go_upto_region 4 with (go_at_call 74; refine (inField_any _ _).mono ?_; rintro e w' ⟨rfl, rfl⟩)
  go_cut [5, 6] from 19 to 21 (fun t5 t6 W => ∃ Sg At, t5 = .pointer (some ⟨Sg, 0, none⟩) ∧ t6 = .pointer (some ⟨At, 0, none⟩) ∧ w.heap.size + 4 ≤ Sg ∧ w.heap.size + 4 ≤ At ∧ Sg < w.heap.size + 6 ∧ At < w.heap.size + 6 ∧ Sg ≠ At ∧ W.heap.size = w.heap.size + 6 ∧ Chg [] w W ∧
    W.heap[w.heap.size]? = some (.cells #[.bool false, .string ⟨#[]⟩] 70 (0, 0)) ∧ W.heap[w.heap.size + 1]? = some (.cells #[.bool false] 4 (0, 0)) ∧
    W.heap[w.heap.size + 1 + 1]? = some (.cells (((txtK (2 * M - 1) []).map eb).toArray) 5 (0, 0)) ∧ W.heap[w.heap.size + 1 + 1 + 1]? = some (.cells #[.slice (some ⟨w.heap.size + 1 + 1, 0, none⟩) (2 * M - 1) (2 * M - 1)] 22 (0, 0)) ∧
    W.heap[Sg]? = some (.cells #[.int .i8 (-1)] 87 (0, 0)) ∧ W.heap[At]? = some (.cells #[.int .i64 ((2 * M - 1 : Nat) : Int)] 3 (0, 0)))
  case first =>
    have hz : zrow (2 * M - 1) = ((txtK (2 * M - 1) []).map eb).toArray := by rw [txtK_nil]; exact zrow_eq _
    have H2 := hid hmk
    go_region
    · go_wp2_with (fail)
      go_meet
      refine ⟨w.heap.size + 1 + 1 + 1 + 1, w.heap.size + 1 + 1 + 1 + 1 + 1, rfl, rfl, by omega, by omega, by omega, by omega, by omega, by simp, ?_, ?_, ?_, ?_, ?_, ?_, ?_⟩
      · exact (((((((Chg.alloc _ _ _).trans (Chg.alloc _ _ _)).trans (Chg.alloc _ _ _)).trans (Chg.alloc _ _ _)).trans (Chg.alloc _ _ _)).trans (Chg.alloc _ _ _)).trans (Chg.drew _ _))
      · exact al_old (al_old (al_old (al_old (al_old (al_new rfl)))))
      · exact al_old (al_old (al_old (al_old (al_new (by simp)))))
      · exact al_old (al_old (al_old (al_new (by simp))))
      · exact al_old (al_old (al_new (by simp)))
      · exact al_old (al_new (by simp))
      · exact al_new (by simp)
    · go_wp2_with (fail)
      go_meet
      refine ⟨w.heap.size + 1 + 1 + 1 + 1 + 1, w.heap.size + 1 + 1 + 1 + 1, rfl, rfl, by omega, by omega, by omega, by omega, by omega, by simp, ?_, ?_, ?_, ?_, ?_, ?_, ?_⟩
      · exact (((((((Chg.alloc _ _ _).trans (Chg.alloc _ _ _)).trans (Chg.alloc _ _ _)).trans (Chg.alloc _ _ _)).trans (Chg.alloc _ _ _)).trans (Chg.alloc _ _ _)).trans (Chg.drew _ _))
      · exact al_old (al_old (al_old (al_old (al_old (al_new rfl)))))
      · exact al_old (al_old (al_old (al_old (al_new (by simp)))))
      · exact al_old (al_old (al_old (al_new (by simp))))
      · exact al_old (al_old (al_new (by simp)))
      · exact al_new (by simp)
      · exact al_old (al_new (by simp))
  case rest =>
    obtain ⟨Sg, At, rfl, rfl, g1, g2, g3, g4, g5, hsz, hc, b1, b2, b3, b4, b5, b6⟩ := hcut
    have B1 := hid b1
    have B2 := hid b2
    have B3 := hid b3
    have B4 := hid b4
    have B5 := hid b5
    have B6 := hid b6
    clear b1 b2 b3 b4 b5 b6 hmk
    go_wp2_with (go_at_call 75; refine (signs_any _).mono ?_; rintro e w' ⟨rfl, hch2⟩)
    refine (callsIn_wide.1 (digits_in Fence.wide 5 trivial rfl _ ⟨_, _, _, rfl⟩ _)).mono ?_
    rintro e wd ⟨rfl, rfl⟩
    go_wp2_with (fail)
    obtain ⟨T, hT⟩ : ∃ T, T = w'.heap.size := ⟨_, rfl⟩
    have hT5 : w.heap.size + 6 ≤ T := by have := hch2.size; omega
    have hal := Chg.alloc [] w' (.cells sgt 88)
    have hal2 := Chg.alloc [] (w'.alloc (.cells sgt 88)) (.cells #[.slice (some ⟨cb, cof, none⟩) M ccap] 22)
    have hcc := (hch2.trans hal).trans hal2
    have hde : De ((w'.alloc (.cells sgt 88)).alloc (.cells #[.slice (some ⟨cb, cof, none⟩) M ccap] 22)) w.heap.size Sg At T (2 * M - 1) (-1) ((2 * M - 1 : Nat) : Int) (txtK (2 * M - 1) []) :=
      ⟨hcc.heap B1.out (by simp), hcc.heap B2.out (by simp), hcc.heap B3.out (by simp), hcc.heap B4.out (by simp), hcc.heap B5.out (by simp), hcc.heap B6.out (by simp), al_old (al_new hT)⟩
    have hb4 : ((w'.alloc (.cells sgt 88)).alloc (.cells #[.slice (some ⟨cb, cof, none⟩) M ccap] 22)).heap[T + 1]? = some (.cells #[.slice (some ⟨cb, cof, none⟩) M ccap] 22 (0, 0)) := al_new (by simp [hT])
    have hs4 : ((w'.alloc (.cells sgt 88)).alloc (.cells #[.slice (some ⟨cb, cof, none⟩) M ccap] 22)).heap.size = T + 2 := by simp; omega
    have hc4 : Chg [] w ((w'.alloc (.cells sgt 88)).alloc (.cells #[.slice (some ⟨cb, cof, none⟩) M ccap] 22)) := hc.trans hcc
    change Code.wp _ _ _ _ ((w'.alloc (.cells sgt 88)).alloc (.cells #[.slice (some ⟨cb, cof, none⟩) M ccap] 22))
    rw [← hT]
    clear hal hal2 hcc hch2 hc hsz B1 B2 B3 B4 B5 B6
    generalize (w'.alloc (.cells sgt 88)).alloc (.cells #[.slice (some ⟨cb, cof, none⟩) M ccap] 22) = w4 at *
    clear hT
    have hcb : cb < w.heap.size := block_lt_of_cell (HD.out 0 (by omega))
    refine rangeF1 8 6 (by omega) rfl (enters_of Tryd.func87 (by kernel_rfl) rfl) (fun x : Fin 16 => Value.int .u8 (x.val : Int))
      (digits_stops Fence.wide 5 trivial rfl (by omega) (T + 1) cb cof ccap M src hM hM1 hc2 (by omega) w4 (cell_of_one hb4) (fun i hi => hc4.cell (HD.out i hi) (by simp)))
      (fun h k => h.trans k) (KpD.put (by omega) (by omega))
      (fun pre W => (∃ s, De W w.heap.size Sg At T (2 * M - 1) s (if pre = [] then ((2 * M - 1 : Nat) : Int) else ((2 * M - pre.length : Nat) : Int)) (txtK (2 * M - 1) (pre.map Fin.val)) ∧
          DeP pre s) ∧ Chg [] w W ∧ T + 2 ≤ W.heap.size)
      (fun c pre W => c = .ret ∧ (pre.map Fin.val <+: nibr src → decS src = ((false, []), false)) ∧ (W.heap[w.heap.size]? = some (.cells #[.bool false, .string ⟨#[]⟩] 70 (0, 0)) ∧ W.heap[w.heap.size + 1]? = some (.cells #[.bool false] 4 (0, 0))) ∧ Chg [] w W ∧ T + 2 ≤ W.heap.size)
      (fun p W W' row hs hg hr => ⟨⟨hs.1.choose, hs.1.choose_spec.1.turn hg hr, hs.1.choose_spec.2⟩, hs.2.1.turn (by omega) hg hr, Nat.le_trans hs.2.2 hg.size⟩)
      (fun c p W W' row hs hg hr => ⟨hs.1, hs.2.1, ⟨heap_turn hs.2.2.1.1 hg hr, heap_turn hs.2.2.1.2 hg hr⟩, hs.2.2.2.1.turn (by omega) hg hr, Nat.le_trans hs.2.2.2.2 hg.size⟩)
      ⟨⟨-1, by simpa using hde, .inl ⟨rfl, rfl⟩⟩, hc4, by omega⟩ ?assign ?body ?done ?stop
    case assign =>
      intro l x W K hK
      gi_wp2
      exact hK
    case body =>
      rintro l pre x W ⟨⟨s, hU, hs⟩, hc, hsz⟩ hlen
      have c1 := cell_of_one hU.sg
      have f1 := free_of_one hU.sg
      have c3 := cell_of_one hU.out
      have c4 := cell_of_one hU.at_
      have f4 := free_of_one hU.at_
      have cT : W.cell? ⟨T, x.val, none⟩ = some (.int .i8 (sgnT x.val)) := by rw [cell_of_row W T _ _ _ _ hU.tab]; exact sgt_get x.val x.isLt
      have r0 := two_cells hU.res
      obtain ⟨r0, r1⟩ := r0
      have fr0 : W.frozen? ⟨w.heap.size, 0, none⟩ = false := frozen_of_row _ _ _ _ _ hU.res
      have fr1 : W.frozen? ⟨w.heap.size, 1, none⟩ = false := frozen_of_row _ _ _ _ _ hU.res
      have r2 := cell_of_one hU.ok
      have fr2 := free_of_one hU.ok
      have hxl := x.isLt
      have hbl : Sg < W.heap.size ∧ At < W.heap.size := ⟨lt_of_block hU.sg, lt_of_block hU.at_⟩
      simp only [actAt, List.setIfInBounds_toArray, List.set_cons_succ, List.set_cons_zero]
      have HDP := hs
      rcases hs with ⟨rfl, rfl⟩ | ⟨hne, h10, hss, htl⟩
      · by_cases hd : x.val < 10
        · have e0 : sgnT x.val = 0 := by unfold sgnT; rw [if_pos hd]
          rw [e0] at cT
          have HU := hid hU
          clear hU hlen e0
          gi_wp2_with (fail)
          obtain ⟨u1, c1'⟩ := HU.out.setSg g1 g5 (by omega) 0
          obtain ⟨q0, q1, q2, q3⟩ := u1.fail
          refine ⟨(KeepsOthers.setCell _ _ _).trans q3, rfl, ?_, ⟨q0, q1⟩, (hc.then c1' (by simp; omega)).then q2 (by simp), Nat.le_trans hsz (Nat.le_trans c1'.size q2.size)⟩
          intro hp
          exact decS_badSign src _ hp (by simp) (by simpa using hd)
        · obtain ⟨s, hs⟩ : ∃ s, s = sgnT x.val := ⟨_, rfl⟩
          rw [← hs] at cT
          have e0 : (s == 0) = false := by rw [hs]; unfold sgnT; rw [if_neg hd]; split <;> rfl
          have HU := hid hU
          have Hs := hid hs
          clear hU hlen hs
          gi_wp2_with (fail)
          obtain ⟨u1, c1'⟩ := HU.out.setSg g1 g5 (by omega) s
          refine ⟨KeepsOthers.setCell _ _ _, KpD.of_chg c1' (by simp; omega) (by simp; omega) (by omega) (by omega), ⟨s, ?_, by rw [Hs.out]; exact DeP.first hd⟩, hc.then c1' (by simp; omega), Nat.le_trans hsz c1'.size⟩
          · simp only [if_true, List.map_nil, txtK_nil] at u1
            rw [if_neg (by simp), List.map_singleton, txtK_one]
            exact u1
      · have e0 : ¬ s < 0 := by rw [hss]; unfold sgnT; split; omega; split <;> omega
        clear hss htl h10
        rw [if_neg hne] at c4 hU
        have hk1 : 1 ≤ pre.length := List.length_pos_iff.2 hne
        by_cases hd : 9 < x.val
        · have hd' : (9 : Int) < (x.val : Int) := by omega
          have HU := hid hU
          clear hU
          gi_wp2_with (fail)
          obtain ⟨q0, q1, q2, q3⟩ := HU.out.fail
          refine ⟨q3, rfl, ?_, ⟨q0, q1⟩, hc.then q2 (by simp), Nat.le_trans hsz q2.size⟩
          intro hp
          rw [List.map_append, List.map_singleton] at hp
          exact decS_badDigit src _ x.val hp (by simpa using hk1) hd
        · have hd' : ¬ (9 : Int) < (x.val : Int) := by omega
          obtain ⟨y, hy⟩ := txtK_at (2 * M - 1) (pre.map Fin.val) (by simpa using hk1) (by simp; omega)
          rw [List.length_map] at hy
          have cx : W.cell? ⟨w.heap.size + 1 + 1, 2 * M - 1 - pre.length, none⟩ = some (eb y) := by
            rw [cell_of_row W _ _ _ _ _ hU.row]; simp [hy]
          have fx : W.frozen? ⟨w.heap.size + 1 + 1, 2 * M - 1 - pre.length, none⟩ = false := frozen_of_row _ _ _ _ _ hU.row
          have HU := hid hU
          clear hU hy
          obtain ⟨a, ha⟩ : ∃ a, a = 2 * M - 1 - pre.length := ⟨_, rfl⟩
          rw [← ha] at cx fx
          rw [show ((2 * M - pre.length : Nat) : Int) = (a : Int) + 1 from by omega] at c4
          have hb : (a : Int) < ((2 * M - 1 : Nat) : Int) := by omega
          have Ha := hid ha
          have ha2 : a < 1000 := by omega
          clear ha
          gi_wp2_with (fail)
          obtain ⟨u1, c1'⟩ := HU.out.setAt g1 g2 g5 (by omega) (a : Int) a (UInt8.ofNat (48 + x.val))
          have hv : Value.int .u8 (48 + (x.val : Int)) = eb (UInt8.ofNat (48 + x.val)) := by rw [eb, toNat_ofNat (by omega)]; rfl
          rw [hv]
          refine ⟨(KeepsOthers.setCell _ _ _).trans (KeepsOthers.setCell _ _ _), KpD.of_chg c1' (by simp; omega) (by simp; omega) (by omega) (by omega), ⟨s, ?_, HDP.step hne hd⟩, hc.then c1' (by simp; omega), Nat.le_trans hsz c1'.size⟩
          · have hA := Ha.out
            rw [if_neg (by simp), List.map_append, List.map_singleton, txtK_step _ _ _ (by simpa using hk1) (by simp; omega), List.length_map, ← hA]
            rw [show ((2 * M - (pre ++ [x]).length : Nat) : Int) = (a : Int) from by rw [List.length_append]; simp; omega]
            exact u1
    case done =>
      rintro D ys W hD rfl ⟨⟨s, hU, hs⟩, hc, hsz⟩ hK
      have hfl : (nibF src).length = 2 * M := by rw [nibF_length, hM]
      have hfn : nibF src ≠ [] := by intro e; rw [e] at hfl; simp at hfl; omega
      rcases hs with ⟨h, _⟩ | ⟨_, h10, hss, htl⟩
      · exact absurd h hfn
      rw [nibF_val] at h10 hss htl hU
      rw [if_neg hfn, hfl, Nat.sub_self] at hU
      have hres := decS_good src (by rw [hM]; exact h2) h10 htl
      rw [hM] at hres
      have htx := txtK_num (2 * M - 1) (nibr src) htl (by rw [nibr_length]; omega)
      have htl2 := txtK_length (2 * M - 1) (nibr src)
      generalize txtK (2 * M - 1) (nibr src) = txt at *
      obtain ⟨N, hN⟩ : ∃ N, N = 2 * M - 1 := ⟨_, rfl⟩
      rw [← hN] at hU htx htl2
      have hN1 : 1 ≤ N := by omega
      have hN2 : N ≤ 31 := by omega
      have hng : (s == 2) = ((nibr src).getD 0 0 == 11 || (nibr src).getD 0 0 == 13) := by
        rw [hss]
        unfold sgnT
        rw [if_neg (by omega)]
        by_cases h : (nibr src).getD 0 0 = 11 ∨ (nibr src).getD 0 0 = 13
        · rw [if_pos h]; rcases h with h | h <;> rw [h] <;> rfl
        · rw [if_neg h, beq_eq_false_iff_ne.2 fun e => h (.inl e), beq_eq_false_iff_ne.2 fun e => h (.inr e)]; rfl
      rw [← hng] at hres
      have HR := hid hres
      have HX := hid htx
      have HN := hid hN
      clear hng hres htx hss hN htl h10 hfl hfn
      rw [← HN.out]
      rw [show ((0 : Nat) : Int) = ((0 : Nat) : Int) from rfl] at hU
      go_wp2_with (fail)
      go_loopg [43] N (fun g s43 wr => ∃ a : Nat, a < N ∧ g = N - a ∧ De wr w.heap.size Sg At T N s (a : Int) txt ∧ Hid (strip (txt.drop a) = strip txt) ∧ Chg [] w wr ∧ T + 2 ≤ wr.heap.size ∧ wr.heap[D]? = some (.deferred (some [])))
      case atStart => exact ⟨0, by omega, by omega, hU, rfl, hc, hsz, hK⟩
      case round =>
        clear hU hc hsz hK
        obtain ⟨a, ha, rfl, hU, hst, hc, hsz, hK⟩ := hrel
        have c3 := cell_of_one hU.out
        have c4 := cell_of_one hU.at_
        have f4 := free_of_one hU.at_
        have cx : wr.cell? ⟨w.heap.size + 1 + 1, a, none⟩ = some (.int .u8 (bN txt a : Nat)) := by
          rw [cell_of_row wr _ _ _ _ _ hU.row, bN_get _ _ (by omega)]; simp [eb, htl2, ha]
        have hx := bN_lt txt a
        by_cases hgo : a + 1 < N ∧ bN txt a = 48
        · obtain ⟨h1, h48⟩ := hgo
          have hst2 := strip_drop txt a (by omega) (by have := bN_get txt a (by omega); rw [h48] at this; exact UInt8.toNat_inj.1 (by rw [← this]; rfl)) hst.out
          have HST := hid hst2; clear hst2
          rw [h48] at cx
          clear h48 hx
          have HU := hid hU; clear hU
          have HK := hid hK; clear hK
          go_wp2_with (fail)
          go_roundg (N - (a + 1))
          case measure => omega
          case rel =>
            have hch : Chg [At] wr (wr.setCell ⟨At, 0, none⟩ (.int .i64 ((a : Int) + 1))) := Chg.setCell wr (.inl (by simp)) _
            refine ⟨a + 1, by omega, rfl, ?_, HST, hc.then hch (by simp; omega), Nat.le_trans hsz hch.size, ?_⟩
            · have u := HU.out
              exact ⟨hch.heap u.res (by simp; omega), hch.heap u.ok (by simp; omega), hch.heap u.row (by simp; omega), hch.heap u.out (by simp; omega), hch.heap u.sg (by simp; omega), one_setCell u.at_, hch.heap u.tab (by simp; omega)⟩
            · exact hch.heap HK.out (by simp; omega)
        · have hst2 := strip_stop txt a (by omega) (by
            rcases Classical.em (a + 1 = txt.length) with h | h
            · exact .inl h
            · refine .inr fun e => hgo ⟨by omega, ?_⟩
              rw [bN_get txt a (by omega), e]; rfl) hst.out
          have HST := hid hst2; clear hst2
          have hrd : Reads wr (.slice (some ⟨w.heap.size + 1 + 1, a, none⟩) (N - a) (N - a)) (txt.drop a) := by
            refine ⟨_, N - a, by rw [List.length_drop, htl2], by simp [htl2], by unfold maxLen; omega, (fun h => by cases h), fun y hy => ?_⟩
            cases hy
            refine ⟨rfl, fun i hi => ?_⟩
            rw [cell_of_row wr _ _ _ _ _ hU.row]
            have : a + i < txt.length := by rw [List.length_drop] at hi; omega
            simp [this]
          have hcv := (hrd.below (w' := wr.drew) ((Below.refl _ _).drew)).str (P := Tryd.prog) 22 9 5 Tryd.underlying22 Tryd.underlying5 Tryd.underlying9
          rw [HST.out] at hcv
          have c1 := cell_of_one hU.sg
          have HU := hid hU
          have HK := hid hK
          clear hrd hU hK
          rcases (show (a + 1 < N ∧ ((bN txt a : Nat) : Int) ≠ 48) ∨ a + 1 = N from by
            rcases Classical.em (a + 1 < N) with h | h
            · exact .inl ⟨h, fun e => hgo ⟨h, by omega⟩⟩
            · exact .inr (by omega)) with ⟨hgs, hgt⟩ | hgs
          · have e0 : (((bN txt a : Nat) : Int) == 48) = false := by rw [beq_eq_false_iff_ne]; exact hgt
            clear hgo hgt
            go_wp2_with (fail)
            have hcv' : (convert 22 9 (.slice (some ⟨w.heap.size + 1 + 1, a, none⟩) (N - a) (N - a))).run Tryd.prog { heap := wr.heap, tape := wr.tape, drawn := wr.drawn + 1, os := wr.os, output := wr.output } =
              .ok (.string ⟨(strip txt).toArray⟩) { heap := wr.heap, tape := wr.tape, drawn := wr.drawn + 1, os := wr.os, output := wr.output } := hcv
            have e1 : (0 : Int) ≤ (a : Int) := by omega
            have e2 : (a : Int) ≤ (N : Int) := by omega
            have e3 : a ≤ N := by omega
            have e4 : ¬ N = a := by omega
            go_still_tail 7, (by kernel_rfl)
            change wpList _ _ _ _ _ wr.drew
            have hw1 : Chg [] w wr.drew := hc.trans (Chg.drew _ _)
            have u := HU.out
            have u0 : wr.drew.heap[w.heap.size]? = some (.cells #[.bool false, .string ⟨#[]⟩] 70 (0, 0)) := u.res
            have u1 : wr.drew.heap[w.heap.size + 1]? = some (.cells #[.bool false] 4 (0, 0)) := u.ok
            have hK1 : wr.drew.heap[D]? = some (.deferred (some [])) := HK.out
            have hsz1 : T + 2 ≤ wr.drew.heap.size := hsz
            clear hcv hcv' HU HK u c1 c3 c4 f4 cx hsz hc
            generalize wr.drew = W1 at *
            obtain ⟨r0, r1⟩ := two_cells u0
            have fr0 : W1.frozen? ⟨w.heap.size, 0, none⟩ = false := frozen_of_row _ _ _ _ _ u0
            have fr1 : W1.frozen? ⟨w.heap.size, 1, none⟩ = false := frozen_of_row _ _ _ _ _ u0
            have r2 := cell_of_one u1
            have fr2 := free_of_one u1
            have U0 := hid u0
            have U1 := hid u1
            have HK1 := hid hK1
            clear u0 u1 hK1
            go_wp2_with (fail)
            obtain ⟨x0, x1, xc⟩ := fin_good (s == 2) (strip txt).toArray U0.out U1.out
            have hKw := xc.heap HK1.out (by simp; omega)
            have hcw := hw1.then xc (by simp)
            have hDw : w.heap.size ≤ D := by omega
            generalize hW2 : ((W1.setCell ⟨w.heap.size, 0, none⟩ (.bool (s == 2))).setCell ⟨w.heap.size, 1, none⟩ (.string ⟨(strip txt).toArray⟩)).setCell ⟨w.heap.size + 1, 0, none⟩ (.bool true) = W2 at *
            have q0 := heap_turn x0 (grownBy_putObj' W2 D (.deferred none)) (B := 0) (fun r e => by cases e; exact ⟨Nat.zero_le _, _, hKw, rfl⟩)
            have q1 := heap_turn x1 (grownBy_putObj' W2 D (.deferred none)) (B := 0) (fun r e => by cases e; exact ⟨Nat.zero_le _, _, hKw, rfl⟩)
            obtain ⟨q00, q01⟩ := two_cells q0
            have q10 := cell_of_one q1
            refine ⟨by simp, .inl ⟨_, _, rfl, run_takeDeferred hKw, ?_⟩⟩
            refine ⟨.tuple #[.agg #[.bool (s == 2), .string ⟨(strip txt).toArray⟩], .bool true], ?_, ?_, ?_⟩
            · simp [results, Tryd.f54, go_sem, q00, q01, q10]
            · rw [HR.out]
            · exact hcw.turn (B := w.heap.size) (Nat.le_refl _) (grownBy_putObj' W2 D (.deferred none)) (fun r e => by cases e; exact ⟨by omega, _, hKw, rfl⟩)
          · have e9 : ¬ (a : Int) < (N : Int) - 1 := by omega
            clear hgo
            go_wp2_with (fail)
            have hcv' : (convert 22 9 (.slice (some ⟨w.heap.size + 1 + 1, a, none⟩) (N - a) (N - a))).run Tryd.prog { heap := wr.heap, tape := wr.tape, drawn := wr.drawn + 1, os := wr.os, output := wr.output } =
              .ok (.string ⟨(strip txt).toArray⟩) { heap := wr.heap, tape := wr.tape, drawn := wr.drawn + 1, os := wr.os, output := wr.output } := hcv
            have e1 : (0 : Int) ≤ (a : Int) := by omega
            have e2 : (a : Int) ≤ (N : Int) := by omega
            have e3 : a ≤ N := by omega
            have e4 : ¬ N = a := by omega
            go_still_tail 7, (by kernel_rfl)
            change wpList _ _ _ _ _ wr.drew
            have hw1 : Chg [] w wr.drew := hc.trans (Chg.drew _ _)
            have u := HU.out
            have u0 : wr.drew.heap[w.heap.size]? = some (.cells #[.bool false, .string ⟨#[]⟩] 70 (0, 0)) := u.res
            have u1 : wr.drew.heap[w.heap.size + 1]? = some (.cells #[.bool false] 4 (0, 0)) := u.ok
            have hK1 : wr.drew.heap[D]? = some (.deferred (some [])) := HK.out
            have hsz1 : T + 2 ≤ wr.drew.heap.size := hsz
            clear hcv hcv' HU HK u c1 c3 c4 f4 cx hsz hc
            generalize wr.drew = W1 at *
            obtain ⟨r0, r1⟩ := two_cells u0
            have fr0 : W1.frozen? ⟨w.heap.size, 0, none⟩ = false := frozen_of_row _ _ _ _ _ u0
            have fr1 : W1.frozen? ⟨w.heap.size, 1, none⟩ = false := frozen_of_row _ _ _ _ _ u0
            have r2 := cell_of_one u1
            have fr2 := free_of_one u1
            have U0 := hid u0
            have U1 := hid u1
            have HK1 := hid hK1
            clear u0 u1 hK1
            go_wp2_with (fail)
            obtain ⟨x0, x1, xc⟩ := fin_good (s == 2) (strip txt).toArray U0.out U1.out
            have hKw := xc.heap HK1.out (by simp; omega)
            have hcw := hw1.then xc (by simp)
            have hDw : w.heap.size ≤ D := by omega
            generalize hW2 : ((W1.setCell ⟨w.heap.size, 0, none⟩ (.bool (s == 2))).setCell ⟨w.heap.size, 1, none⟩ (.string ⟨(strip txt).toArray⟩)).setCell ⟨w.heap.size + 1, 0, none⟩ (.bool true) = W2 at *
            have q0 := heap_turn x0 (grownBy_putObj' W2 D (.deferred none)) (B := 0) (fun r e => by cases e; exact ⟨Nat.zero_le _, _, hKw, rfl⟩)
            have q1 := heap_turn x1 (grownBy_putObj' W2 D (.deferred none)) (B := 0) (fun r e => by cases e; exact ⟨Nat.zero_le _, _, hKw, rfl⟩)
            obtain ⟨q00, q01⟩ := two_cells q0
            have q10 := cell_of_one q1
            refine ⟨by simp, .inl ⟨_, _, rfl, run_takeDeferred hKw, ?_⟩⟩
            refine ⟨.tuple #[.agg #[.bool (s == 2), .string ⟨(strip txt).toArray⟩], .bool true], ?_, ?_, ?_⟩
            · simp [results, Tryd.f54, go_sem, q00, q01, q10]
            · rw [HR.out]
            · exact hcw.turn (B := w.heap.size) (Nat.le_refl _) (grownBy_putObj' W2 D (.deferred none)) (fun r e => by cases e; exact ⟨by omega, _, hKw, rfl⟩)
    case stop =>
      rintro D c pre W hD hpre ⟨rfl, hl, ⟨r0, r1⟩, hc, hsz⟩ hK
      have hq := hl (by rw [← nibF_val]; exact hpre.map _)
      have HQ := hid hq; clear hq
      have q0 := heap_turn r0 (grownBy_putObj' W D (.deferred none)) (B := 0) (fun r e => by cases e; exact ⟨Nat.zero_le _, _, hK, rfl⟩)
      have q1 := heap_turn r1 (grownBy_putObj' W D (.deferred none)) (B := 0) (fun r e => by cases e; exact ⟨Nat.zero_le _, _, hK, rfl⟩)
      obtain ⟨q00, q01⟩ := two_cells q0
      have q10 := cell_of_one q1
      go_wp2_with (fail)
      refine ⟨by simp, .inl ⟨_, _, rfl, run_takeDeferred hK, ?_⟩⟩
      refine ⟨.tuple #[.agg #[.bool false, .string ⟨#[]⟩], .bool false], ?_, ?_, ?_⟩
      · simp [results, Tryd.f54, go_sem, q00, q01, q10]
      · rw [HQ.out]
      · exact hc.turn (B := w.heap.size) (Nat.le_refl _) (grownBy_putObj' W D (.deferred none)) (fun r e => by cases e; exact ⟨by omega, _, hK, rfl⟩)

set_option maxRecDepth 100000 in
set_option maxHeartbeats 2000000 in
theorem Decode_bad (w : World) (v : Value) (src : Bs) (h : Reads w v src) (hs : ¬ okSize src.length = true) :
    Calls Tryd.prog 54 #[v] w fun e w' =>
      e = .returned (.tuple #[.agg #[.bool (decS src).1.1, .string ⟨(decS src).1.2.toArray⟩], .bool (decS src).2]) ∧ Chg [] w w' := by
  obtain ⟨at_, cap, rfl, hcap, hlen, hnil, hcell⟩ := h
  have H := hid (decS_badSize src hs)
  have h2 : okSize src.length = false := by simpa using hs
  clear hcell hnil hs
  go_enter Tryd.func54, Tryd.ntmps54
  go_wp2_with (go_at_call 74; refine (inField_any _ _).mono ?_; rintro e w' ⟨rfl, rfl⟩)
  have q0 : ((w.alloc (Obj.cells #[Value.bool false, Value.string ⟨#[]⟩] 70)).alloc (Obj.cells #[Value.bool false] 4)).heap[w.heap.size]? = some (.cells #[.bool false, .string ⟨#[]⟩] 70 (0, 0)) := al_old (al_new rfl)
  have q1 : ((w.alloc (Obj.cells #[Value.bool false, Value.string ⟨#[]⟩] 70)).alloc (Obj.cells #[Value.bool false] 4)).heap[w.heap.size + 1]? = some (.cells #[.bool false] 4 (0, 0)) := al_new (by simp)
  obtain ⟨q00, q01⟩ := two_cells q0
  have q10 := cell_of_one q1
  clear q0 q1
  refine ⟨by simp, ?_⟩
  refine ⟨.tuple #[.agg #[.bool false, .string ⟨#[]⟩], .bool false], ?_, ?_, ?_⟩
  · simp [results, Tryd.f54, go_sem, q00, q01, q10]
  · rw [H.out]
  · exact (Chg.alloc _ _ _).trans (Chg.alloc _ _ _)

theorem Decode_any (w : World) (v : Value) (src : Go.Proofs.YtmklkfogddppmaaDoor.Bs) (hv : Reads w v src) :
    Calls Tryd.prog 54 #[v] w fun e w' =>
      e = .returned (.tuple #[.agg #[.bool (decS src).1.1, .string ⟨(decS src).1.2.toArray⟩], .bool (decS src).2]) ∧ Chg [] w w' := by
  by_cases h1 : okSize src.length = true
  · obtain ⟨M, hM⟩ : ∃ M, src.length = M := ⟨_, rfl⟩
    obtain ⟨M', e2, hM1, hM2⟩ := ok_nat h1
    obtain rfl : M = M' := by omega
    rcases hv.parts hM with ⟨_, h0, _⟩ | ⟨cb, cof, ccap, rfl, _, hd1, hd2, HD⟩
    · omega
    exact callsIn_wide.1 (Decode_in w cb cof ccap M src hM hM1 hM2 hd1 HD)
  · exact Decode_bad w v src hv h1

end Go.Proofs.YtmklkfogddppmaaDoor
