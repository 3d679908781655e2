/- Unpack of layer 3. -/
import Derived.Test.YtmmhokcdchhciaaOffset
import Derived.Test.YtmmhokcdchhciaaSpecE
namespace Go.Proofs.Ytmmhokcdchhciaa
open Go.RowKit Go.Shelf
set_option linter.unusedVariables false

attribute [local go_sem] Oper.semAt_some

/-- The blocks of Unpack: n, the row, its slice, the place. -/
structure Up (W : World) (h n : Nat) (at_ : Int) (row : Bs) : Prop where
  nb : W.heap[h]? = some (.cells #[.int .i64 (n : Int)] 3 (0, 0))
  row : W.heap[h + 1]? = some (.cells (row.map eb).toArray 5 (0, 0))
  out : W.heap[h + 1 + 1]? = some (.cells #[.slice (some ⟨h + 1, 0, none⟩) n n] 22 (0, 0))
  at_ : W.heap[h + 3]? = some (.cells #[.int .i64 at_] 3 (0, 0))

theorem Up.turn {W W' : World} {row : Option Nat} {B h n : Nat} {a : Int} {r : Bs} (u : Up W h n a r) (hg : W.grownBy W' row)
    (hr : ∀ r, row = some r → B ≤ r ∧ ∃ o : Obj, W.heap[r]? = some o ∧ o.isCells = false) : Up W' h n a r :=
  ⟨heap_turn u.nb hg hr, heap_turn u.row hg hr, heap_turn u.out hg hr, heap_turn u.at_ hg hr⟩

theorem Up.step {W : World} {h n : Nat} {a : Int} {r : Bs} (u : Up W h n a r) (i : Nat) (y : UInt8) (a' : Int) :
    Up ((W.setCell ⟨h + 1, i, none⟩ (eb y)).setCell ⟨h + 3, 0, none⟩ (.int .i64 a')) h n a' (r.set i y) ∧
      Chg [h + 1, h + 3] W ((W.setCell ⟨h + 1, i, none⟩ (eb y)).setCell ⟨h + 3, 0, none⟩ (.int .i64 a')) ∧
      KeepsOthers W ((W.setCell ⟨h + 1, i, none⟩ (eb y)).setCell ⟨h + 3, 0, none⟩ (.int .i64 a')) := by
  have hch : Chg [h + 1, h + 3] W ((W.setCell ⟨h + 1, i, none⟩ (eb y)).setCell ⟨h + 3, 0, none⟩ (.int .i64 a')) := (Chg.setCell W (.inl (by simp)) _).trans (Chg.setCell _ (.inl (by simp)) _)
  refine ⟨⟨hch.heap u.nb (by simp), ?_, hch.heap u.out (by simp), ?_⟩, hch, (KeepsOthers.setCell _ _ _).trans (KeepsOthers.setCell _ _ _)⟩
  · rw [heap_setCell_other _ _ (h + 1) _ (by simp)]
    exact (heap_setCell_same W (h + 1) i _ _ (eb y) u.row).trans (by rw [rows_set])
  · exact one_setCell ((heap_setCell_other W _ (h + 3) _ (by simp)).trans u.at_)

set_option maxRecDepth 100000 in
set_option maxHeartbeats 2000000 in
theorem Unpack_in (w : World) (cb cof ccap M n : Nat) (src : Go.Proofs.Ytmmhokcdchhciaa.Bs) (hM : src.length = M) (hM1 : 1 ≤ M) (hM2 : M ≤ 16) (hn1 : 1 ≤ n) (hn2 : n ≤ 16) (hc2 : M ≤ ccap)
    (HD : Hid (∀ i, i < M → w.cell? ⟨cb, cof + i, none⟩ = some (.int .u8 (bN src i : Nat)))) :
    CallsIn Fence.wide 6 Try.prog 20 #[.slice (some ⟨cb, cof, none⟩) M ccap, .int .i64 (n : Int)] w fun e w' =>
      e = .returned (.slice (some ⟨w.heap.size + 1, 0, none⟩) n n) ∧ w'.heap[w.heap.size + 1]? = some (.cells ((unpF n (nibr src)).map eb).toArray 5 (0, 0)) ∧ Chg [] w w' := by
  have h1 : okSize n = true := by unfold okSize; simp; omega
  have h2 : okSize M = true := by unfold okSize; simp; omega
  have hmk := mk_bytes (P := Try.prog) 22 5 Try.underlying22 info_u8 n (by omega)
  refine callsIn_of_wp_marks Try.func20 rfl trivial ?_ rfl
  simp only [Try.ntmps20, List.size_toArray, List.length_cons, List.length_nil, Nat.reduceAdd, Nat.reduceSub, Array.replicate_succ, Array.replicate_zero, List.push_toArray, List.append_toArray, List.nil_append, List.cons_append]
  refine wpIn_wide.2 ?_
  go_wp2_with (go_at_call 41; refine (inField_any _ _).mono ?_; rintro e w' ⟨rfl, rfl⟩)
  have b1 : (((w.alloc (.cells #[.int .i64 (n : Int)] 3)).alloc (.cells (zrow n) 5)).alloc (.cells #[.slice (some ⟨w.heap.size + 1, 0, none⟩) n n] 22)).heap[w.heap.size]? = some (.cells #[.int .i64 (n : Int)] 3 (0, 0)) := al_old (al_old (al_new rfl))
  have b2 : (((w.alloc (.cells #[.int .i64 (n : Int)] 3)).alloc (.cells (zrow n) 5)).alloc (.cells #[.slice (some ⟨w.heap.size + 1, 0, none⟩) n n] 22)).heap[w.heap.size + 1]? = some (.cells ((filK n 0).map eb).toArray 5 (0, 0)) := (al_old (al_new (by simp))).trans (by rw [filK_zero, ← zrow_eq])
  have b3 : (((w.alloc (.cells #[.int .i64 (n : Int)] 3)).alloc (.cells (zrow n) 5)).alloc (.cells #[.slice (some ⟨w.heap.size + 1, 0, none⟩) n n] 22)).heap[w.heap.size + 1 + 1]? = some (.cells #[.slice (some ⟨w.heap.size + 1, 0, none⟩) n n] 22 (0, 0)) := al_new (by simp)
  have hs3 : (((w.alloc (.cells #[.int .i64 (n : Int)] 3)).alloc (.cells (zrow n) 5)).alloc (.cells #[.slice (some ⟨w.heap.size + 1, 0, none⟩) n n] 22)).heap.size = w.heap.size + 3 := by simp
  have hc3 : Chg [] w (((w.alloc (.cells #[.int .i64 (n : Int)] 3)).alloc (.cells (zrow n) 5)).alloc (.cells #[.slice (some ⟨w.heap.size + 1, 0, none⟩) n n] 22)) := ((Chg.alloc _ _ _).trans (Chg.alloc _ _ _)).trans (Chg.alloc _ _ _)
  have B1 := hid b1
  have B2 := hid b2
  have B3 := hid b3
  clear b1 b2 b3 hmk
  generalize ((w.alloc (.cells #[.int .i64 (n : Int)] 3)).alloc (.cells (zrow n) 5)).alloc (.cells #[.slice (some ⟨w.heap.size + 1, 0, none⟩) n n] 22) = w3 at *
  go_loopw [22] (fun i wr => ∃ k : Nat, k ≤ n ∧ i = .int .i64 k ∧ Hid (wr.heap[w.heap.size]? = some (.cells #[.int .i64 (n : Int)] 3 (0, 0))) ∧ Hid (wr.heap[w.heap.size + 1]? = some (.cells ((filK n k).map eb).toArray 5 (0, 0))) ∧
      Hid (wr.heap[w.heap.size + 1 + 1]? = some (.cells #[.slice (some ⟨w.heap.size + 1, 0, none⟩) n n] 22 (0, 0))) ∧ wr.heap.size = w.heap.size + 3 ∧ Chg [] w wr) (fun i _ => n - (intOf i).toNat)
  case atStart => exact ⟨0, by omega, rfl, B1, B2, B3, hs3, hc3⟩
  case round =>
    clear B1 B2 B3 hs3 hc3
    obtain ⟨k, hk, rfl, B1, B2, B3, hs3, hc3⟩ := hrel
    have c3 := cell_of_one B3.out
    have c1 := cell_of_one B1.out
    by_cases hlt : k < n
    · have cx : wr.cell? ⟨w.heap.size + 1, k, none⟩ = some (.int .u8 0) := by
        rw [cell_of_row wr _ _ _ _ _ B2.out]; simp [filK_at n k hlt, eb]
      have fx : wr.frozen? ⟨w.heap.size + 1, k, none⟩ = false := frozen_of_row _ _ _ _ _ B2.out
      go_wp2_with (fail)
      go_roundw
      case rel =>
        have hch := Chg.setCell (L := [w.heap.size + 1]) wr (p := ⟨w.heap.size + 1, k, none⟩) (.inl (by simp)) (.int .u8 240)
        refine ⟨k + 1, by omega, by go_num, hch.heap B1.out (by simp), ?_, hch.heap B3.out (by simp), by simp [hs3], hc3.then hch (by simp)⟩
        have h3 := heap_setCell_same wr (w.heap.size + 1) k _ _ (eb 240) B2.out
        rw [rows_set, ← filK_succ] at h3
        exact h3
      case measure => simp [intOf]; omega
    · obtain rfl : k = n := by omega
      clear hlt c3
      have hfl := filK_full k
      rw [hfl] at B2
      clear hfl
      go_wp2_with (go_at_call 43; refine (callsIn_wide.1 (digits_in Fence.wide 5 trivial rfl _ ⟨_, _, _, rfl⟩ _)).mono ?_; rintro e w' ⟨rfl, rfl⟩)
      have hal := Chg.alloc [] wr (.cells #[.int .i64 (k : Int)] 3)
      have hal2 := Chg.alloc [] (wr.alloc (.cells #[.int .i64 (k : Int)] 3)) (.cells #[.slice (some ⟨cb, cof, none⟩) M ccap] 22)
      have hu : Up ((wr.alloc (.cells #[.int .i64 (k : Int)] 3)).alloc (.cells #[.slice (some ⟨cb, cof, none⟩) M ccap] 22)) w.heap.size k (k : Int) (unpR k []) :=
        ⟨al_old (al_old B1.out), al_old (al_old B2.out), al_old (al_old B3.out), al_old (al_new hs3.symm)⟩
      have hb4 : ((wr.alloc (.cells #[.int .i64 (k : Int)] 3)).alloc (.cells #[.slice (some ⟨cb, cof, none⟩) M ccap] 22)).heap[w.heap.size + 3 + 1]? = some (.cells #[.slice (some ⟨cb, cof, none⟩) M ccap] 22 (0, 0)) := al_new (by simp; omega)
      have hs4 : ((wr.alloc (.cells #[.int .i64 (k : Int)] 3)).alloc (.cells #[.slice (some ⟨cb, cof, none⟩) M ccap] 22)).heap.size = w.heap.size + 5 := by simp; omega
      have hc4 := (hc3.trans hal).trans hal2
      clear hal hal2 hc3 hs3 B1 B2 B3 c1
      generalize (wr.alloc (.cells #[.int .i64 (k : Int)] 3)).alloc (.cells #[.slice (some ⟨cb, cof, none⟩) M ccap] 22) = w4 at *
      have hcb : cb < w.heap.size := block_lt_of_cell (HD.out 0 (by omega))
      have hn1' : 1 ≤ k := hn1
      refine rangeF1 8 6 (by omega) rfl (enters_of Try.func48 (by kernel_rfl) rfl) (fun x : Fin 16 => Value.int .u8 (x.val : Int))
        (digits_stops Fence.wide 5 trivial rfl (by omega) (w.heap.size + 3 + 1) cb cof ccap M src hM hM1 hc2 (by omega) w4 (cell_of_one hb4) (fun i hi => hc4.cell (HD.out i hi) (by simp)))
        (fun h k => h.trans k) (KpD.put (by omega) (by omega))
        (fun pre W => pre.length ≤ k + 1 ∧ Up W w.heap.size k ((k : Int) - pre.length) (unpR k (pre.map Fin.val)) ∧ Chg [] w W ∧ w.heap.size + 5 ≤ W.heap.size)
        (fun c pre W => c = .exit 2 ∧ k + 1 ≤ pre.length ∧ (∃ a, Up W w.heap.size k a (unpR k (pre.map Fin.val))) ∧ Chg [] w W ∧ w.heap.size + 5 ≤ W.heap.size)
        (fun s W W' row hs hg hr => ⟨hs.1, hs.2.1.turn hg hr, hs.2.2.1.turn (by omega) hg hr, Nat.le_trans hs.2.2.2 hg.size⟩)
        (fun c s W W' row hs hg hr => ⟨hs.1, hs.2.1, ⟨hs.2.2.1.choose, hs.2.2.1.choose_spec.turn hg hr⟩, hs.2.2.2.1.turn (by omega) hg hr, Nat.le_trans hs.2.2.2.2 hg.size⟩)
        ⟨by simp, by simpa using hu, hc4, by omega⟩ ?assign ?body ?done ?stop
      case assign =>
        intro l x W K hK
        gi_wp2
        exact hK
      case body =>
        rintro l pre x W ⟨hlen, hU, hc, hsz⟩ _
        have c1 := cell_of_one hU.nb
        have c3 := cell_of_one hU.out
        have c4 := cell_of_one hU.at_
        have f4 := free_of_one hU.at_
        have hxl := x.isLt
        simp only [actAt, List.setIfInBounds_toArray, List.set_cons_succ, List.set_cons_zero]
        by_cases hk0 : pre = []
        · subst hk0
          have hU' : Up W w.heap.size k (k : Int) (unpR k []) := by simpa using hU
          clear hU c4
          have c4 := cell_of_one hU'.at_
          have cx : W.cell? ⟨w.heap.size + 1, k - 1, none⟩ = some (.int .u8 240) := by
            rw [cell_of_row W _ _ _ _ _ hU'.row]; simp [unpR_at0 k hn1', eb]
          have fx : W.frozen? ⟨w.heap.size + 1, k - 1, none⟩ = false := frozen_of_row _ _ _ _ _ hU'.row
          have hst := hU'.step (k - 1) (UInt8.ofNat (16 * x.val)) ((k : Int) - 1)
          have HS := hid hst; clear hst
          have hv : Value.int .u8 ((x.val : Int) * 16) = eb (UInt8.ofNat (16 * x.val)) := by rw [eb, toNat_ofNat (by omega)]; rw [show ((16 * x.val : Nat) : Int) = (x.val : Int) * 16 from by omega]
          have HV := hid hv; clear hv
          gi_wp2_with (fail)
          rw [HV.out]
          obtain ⟨s1, s2, s3⟩ := HS.out
          refine ⟨s3, KpD.of_chg s2 (by simp) (by simp; omega) (by omega) (by omega), by simp, ?_, hc.then s2 (by simp), Nat.le_trans hsz s2.size⟩
          rw [← unpR_first _ _ hn1'] at s1
          simpa using s1
        · have hk1 : 1 ≤ pre.length := List.length_pos_iff.2 hk0
          by_cases hk2 : pre.length ≤ k
          · have hpl : (pre.map Fin.val).length = pre.length := by simp
            have hz : (if (pre.map Fin.val).length = 1 then (pre.map Fin.val).getD 0 0 else 15) < 16 := by
              split
              · rw [List.getD_eq_getElem?_getD, List.getElem?_map]
                cases pre[0]? with
                | none => decide
                | some y => exact y.isLt
              · decide
            have hat := unpR_at k (pre.map Fin.val) (by omega) (by omega)
            have hstep := unpR_step k (pre.map Fin.val) x.val (by omega) (by omega)
            generalize (if (pre.map Fin.val).length = 1 then (pre.map Fin.val).getD 0 0 else 15) = z at *
            rw [hpl] at hat hstep
            have cx : W.cell? ⟨w.heap.size + 1, k - pre.length, none⟩ = some (.int .u8 ((16 * z : Nat) : Int)) := by
              rw [cell_of_row W _ _ _ _ _ hU.row]; simp only [List.getElem?_toArray, List.getElem?_map, hat, Option.map_some]; rw [eb, toNat_ofNat (by omega)]
            have fx : W.frozen? ⟨w.heap.size + 1, k - pre.length, none⟩ = false := frozen_of_row _ _ _ _ _ hU.row
            have hst := hU.step (k - pre.length) (UInt8.ofNat (16 * z + x.val)) ((k : Int) - pre.length - 1)
            have HS := hid hst; clear hst
            have hv : Value.int .u8 (bits .or .u8 ((16 * z : Nat) : Int) (x.val : Int)) = eb (UInt8.ofNat (16 * z + x.val)) := by
              rw [u8_or_nat _ _ (by omega) (by omega), eb, toNat_ofNat (by omega), Nat.mul_comm 16 z, Nat.or_comm, or_shift _ _ hxl hz]; rw [Nat.mul_comm]
            have HV := hid hv; clear hv
            have HT := hid hstep; clear hstep hat
            have e1 : (((k : Int) - pre.length) == (k : Int)) = false := by rw [beq_eq_false_iff_ne]; omega
            have e2 : ¬ ((k : Int) - pre.length) < 0 := by omega
            have hb : (k : Int) - pre.length < k := by omega
            generalize 16 * z = zz at *
            gi_wp2_with (fail)
            rw [HV.out]
            obtain ⟨s1, s2, s3⟩ := HS.out
            refine ⟨s3, KpD.of_chg s2 (by simp) (by simp; omega) (by omega) (by omega), by simp; omega, ?_, hc.then s2 (by simp), Nat.le_trans hsz s2.size⟩
            rw [List.map_append, List.map_singleton, HT.out, List.length_append]
            rw [show (k : Int) - ((pre.length + [x].length : Nat) : Int) = (k : Int) - pre.length - 1 from by simp; omega]
            exact s1
          · have HA := hid (show ¬ ((k : Int) - pre.length) = k by omega)
            have e1 : (((k : Int) - pre.length) == (k : Int)) = false := by rw [beq_eq_false_iff_ne]; omega
            have e2 : ((k : Int) - pre.length) < 0 := by omega
            gi_wp2_with (fail)
            refine ⟨KeepsOthers.refl _, rfl, by simp; omega, ⟨(k : Int) - pre.length, ?_⟩, hc, hsz⟩
            rw [List.map_append, List.map_singleton, unpR_more _ _ _ (by simp; omega)]
            exact hU
      case done =>
        rintro D ys W hD rfl ⟨_, hU, hc, hsz⟩ hK
        have c3 := cell_of_one hU.out
        go_wp2_with (fail)
        refine ⟨by simp, .inl ⟨_, _, rfl, run_takeDeferred hK, ?_⟩⟩
        refine ⟨_, results_tmp rfl _ _ _, rfl, ?_, ?_⟩
        · have h5 := (hU.turn (grownBy_putObj' W D (.deferred none)) (B := 0) (fun r e => by cases e; exact ⟨Nat.zero_le _, _, hK, rfl⟩)).row
          rw [nibF_val, unpR_full _ _ (by intro e; have := congrArg List.length e; rw [nibr_length] at this; simp at this; omega)] at h5
          exact h5
        · exact hc.turn (B := w.heap.size) (Nat.le_refl _) (grownBy_putObj' W D (.deferred none)) (fun r e => by cases e; exact ⟨by omega, _, hK, rfl⟩)
      case stop =>
        rintro D c pre W hD hpre ⟨rfl, hl, ⟨a, hU⟩, hc, hsz⟩ hK
        have c3 := cell_of_one hU.out
        go_wp2_with (fail)
        refine ⟨by simp, .inl ⟨_, _, rfl, run_takeDeferred hK, ?_⟩⟩
        refine ⟨_, results_tmp rfl _ _ _, rfl, ?_, ?_⟩
        · have h5 := (hU.turn (grownBy_putObj' W D (.deferred none)) (B := 0) (fun r e => by cases e; exact ⟨Nat.zero_le _, _, hK, rfl⟩)).row
          rw [unpR_prefix k _ (nibr src) (by rw [← nibF_val]; exact hpre.map _) (by simpa using hl)] at h5
          exact h5
        · exact hc.turn (B := w.heap.size) (Nat.le_refl _) (grownBy_putObj' W D (.deferred none)) (fun r e => by cases e; exact ⟨by omega, _, hK, rfl⟩)

theorem Unpack_any (w : World) (v : Value) (b : Go.Proofs.Ytmmhokcdchhciaa.Bs) (n : Int) (hv : Reads w v b) :
    Calls Try.prog 20 #[v, .int .i64 n] w fun e w' => ∃ u, e = .returned u ∧ w'.ownsRow w.heap.size 5 1 u (unpackS b n).length ((unpackS b n).map eb) ∧ Chg [] w w' := by
  obtain ⟨M, hM⟩ : ∃ M, b.length = M := ⟨_, rfl⟩
  by_cases h1 : okSize M = true
  · by_cases h2 : okSize n = true
    · obtain ⟨m, rfl, hm1, hm2⟩ := ok_nat h2
      have HS := unpackS_eq b m (by rw [hM]; exact h1) h2
      obtain ⟨M', e2, hM1, hM2⟩ := ok_nat h1
      obtain rfl : M = M' := by omega
      rcases hv.parts hM with ⟨_, h0, _⟩ | ⟨cb, cof, ccap, rfl, _, hd1, hd2, HD⟩
      · omega
      refine (callsIn_wide.1 (Unpack_in w cb cof ccap M m b hM hM1 hM2 hm1 hm2 hd1 HD)).mono ?_
      rintro e w' ⟨rfl, hW, hc⟩
      refine ⟨_, rfl, ?_, hc⟩
      rw [HS, unpF_length]
      exact ⟨by simp [unpF_length], .inr ⟨w.heap.size + 1, m, _, rfl, by omega, hW, Nat.le_refl _, by unfold maxLen; omega, by simp [unpF_length], by simpa using List.take_of_length_le (by simp [unpF_length])⟩⟩
    · have HS := hid (unpackS_bad b n (.inr h2))
      obtain ⟨a, cap, rfl⟩ := hv.shape hM
      have hl1 := hv.len_le
      unfold maxLen at hl1
      clear hv
      rw [hM] at hl1
      go_enter Try.func20, Try.ntmps20
      go_wp2_with (go_at_call 41; refine (inField_any _ _).mono ?_; rintro e w' ⟨rfl, rfl⟩)
      go_returns
      exact ⟨_, rfl, by rw [HS.out]; exact World.ownsRow_nil _ _ _ _, Chg.alloc _ _ _⟩
  · have HS := hid (unpackS_bad b n (.inl (by rw [hM]; exact h1)))
    obtain ⟨a, cap, rfl⟩ := hv.shape hM
    have hl1 := hv.len_le
    unfold maxLen at hl1
    rw [hM] at hl1
    clear hv
    go_enter Try.func20, Try.ntmps20
    go_wp2_with (go_at_call 41; refine (inField_any _ _).mono ?_; rintro e w' ⟨rfl, rfl⟩)
    go_returns
    exact ⟨_, rfl, by rw [HS.out]; exact World.ownsRow_nil _ _ _ _, Chg.alloc _ _ _⟩

end Go.Proofs.Ytmmhokcdchhciaa
