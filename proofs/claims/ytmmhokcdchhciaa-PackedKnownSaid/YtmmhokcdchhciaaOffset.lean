/- Offset of layer 3. -/
import Derived.Laws.EntriesVeiled
import Derived.Test.YtmmhokcdchhciaaRange
import Derived.Test.YtmmhokcdchhciaaPack
import Derived.StillTailTactics
namespace Go.Proofs.Ytmmhokcdchhciaa
open Go.RowKit Go.Shelf
set_option linter.unusedVariables false

attribute [local go_sem] Oper.semAt_some

theorem Wr.turn {W W' : World} {row : Option Nat} {B Ba Bo g n : Nat} {p : List Nat} (h : Wr W Ba Bo g n p) (hg : W.grownBy W' row)
    (hr : ∀ r, row = some r → B ≤ r ∧ ∃ o : Obj, W.heap[r]? = some o ∧ o.isCells = false) : Wr W' Ba Bo g n p :=
  ⟨heap_turn h.at_ hg hr, heap_turn h.out hg hr, heap_turn h.row hg hr⟩

theorem offS_eq (dst src : Bs) (h1 : okSize dst.length = true) (h2 : okSize src.length = true) : offS dst src = fld dst.length (bN dst (dst.length - 1) % 16 :: nibr src) := by
  unfold offS; rw [h1, h2, last_bN]; rfl
theorem offS_bad (dst src : Bs) (h : ¬ okSize dst.length = true ∨ ¬ okSize src.length = true) : offS dst src = [] := by
  unfold offS; rcases h with h | h <;> simp [h]

set_option maxRecDepth 100000 in
set_option maxHeartbeats 2000000 in
theorem Offset_in (w : World) (bb off cap cb cof ccap L M : Nat) (dst src : Go.Proofs.Ytmmhokcdchhciaa.Bs) (hL : dst.length = L) (hM : src.length = M) (hL1 : 1 ≤ L) (hL2 : L ≤ 16) (hM1 : 1 ≤ M) (hM2 : M ≤ 16) (hc1 : L ≤ cap) (hc2 : M ≤ ccap)
    (HC : Hid (∀ i, i < L → w.cell? ⟨bb, off + i, none⟩ = some (.int .u8 (bN dst i : Nat)))) (HD : Hid (∀ i, i < M → w.cell? ⟨cb, cof + i, none⟩ = some (.int .u8 (bN src i : Nat)))) :
    CallsIn Fence.wide 6 Try.prog 22 #[.slice (some ⟨bb, off, none⟩) L cap, .slice (some ⟨cb, cof, none⟩) M ccap] w fun e w' =>
      e = .returned (.slice (some ⟨w.heap.size, 0, none⟩) L L) ∧ Wr w' (w.heap.size + 1 + 1) (w.heap.size + 1) w.heap.size L (bN dst (L - 1) % 16 :: nibr src) ∧ Chg [] w w' := by
  have h1 : okSize L = true := by unfold okSize; simp; omega
  have h2 : okSize M = true := by unfold okSize; simp; omega
  have hx := bN_lt dst (L - 1)
  have hcl := HC.out (L - 1) (by omega)
  refine callsIn_of_wp_marks Try.func22 rfl trivial ?_ rfl
  simp only [Try.ntmps22, List.size_toArray, List.length_cons, List.length_nil, Nat.reduceAdd, Nat.reduceSub, Array.replicate_succ, Array.replicate_zero, List.push_toArray, List.append_toArray, List.nil_append, List.cons_append]
  refine wpIn_wide.2 ?_
  go_wp2_with (go_at_call 41; refine (inField_any _ _).mono ?_; rintro e w' ⟨rfl, rfl⟩)
  refine (writer_any L (by omega) w).mono ?_
  rintro e w1 ⟨rfl, hWr, hch, hsz⟩
  unfold wval
  go_wp2_with (fail)
  have hal := Chg.alloc [] w1 (.cells #[Value.func (.func 47) #[] #[.pointer (some ⟨w.heap.size + 1 + 1, 0, none⟩), .pointer (some ⟨w.heap.size + 1, 0, none⟩)]] 56)
  have hcl1 := hal.cell (hch.cell hcl (by simp)) (by simp)
  have hWr1 := hWr.keep hal (by simp) (by simp) (by simp)
  have hch1 := hch.trans hal
  have hfb : (w1.alloc (.cells #[Value.func (.func 47) #[] #[.pointer (some ⟨w.heap.size + 1 + 1, 0, none⟩), .pointer (some ⟨w.heap.size + 1, 0, none⟩)]] 56)).heap[w.heap.size + 3]? = some (.cells #[Value.func (.func 47) #[] #[.pointer (some ⟨w.heap.size + 1 + 1, 0, none⟩), .pointer (some ⟨w.heap.size + 1, 0, none⟩)]] 56 (0, 0)) := al_new hsz.symm
  have hs1 : (w1.alloc (.cells #[Value.func (.func 47) #[] #[.pointer (some ⟨w.heap.size + 1 + 1, 0, none⟩), .pointer (some ⟨w.heap.size + 1, 0, none⟩)]] 56)).heap.size = w.heap.size + 4 := by simp; omega
  clear hal
  generalize w1.alloc (.cells #[Value.func (.func 47) #[] #[.pointer (some ⟨w.heap.size + 1 + 1, 0, none⟩), .pointer (some ⟨w.heap.size + 1, 0, none⟩)]] 56) = w2 at *
  clear hWr hch hcl hsz
  have hfc := cell_of_one hfb
  have e1 : IntKind.i64.wrap ((L : Int) - 1) = (L : Int) - 1 := IntWalk.i64_in _ (by omega)
  have e5 : ((L : Int) - 1).toNat = L - 1 := by omega
  have e7 : 1 ≤ (L : Int) := by omega
  have e9 : (L : Int) - 1 < L := by omega
  go_still_tail 8, (by kernel_rfl)
  clear e1 e5
  change wpList _ _ _ _ _ w2.drew
  go_wp2_with (fail)
  refine (put_int w2.drew _ _ _ L [] _ (by omega) (by omega) (by simp) (hWr1.keep (Chg.drew [] w2) (by simp) (by simp) (by simp))).mono ?_
  rintro e w3 ⟨rfl, hWr3, hch3, hsz3⟩
  have HW3 : Wr w3 (w.heap.size + 1 + 1) (w.heap.size + 1) w.heap.size L [bN dst (L - 1) % 16] := by
    simpa [show ((bN dst (L - 1) : Int) % 16).toNat = bN dst (L - 1) % 16 from by omega] using hWr3
  have hs3 : w3.heap.size = w.heap.size + 4 := by rw [hsz3]; exact hs1
  have hfb3 := hch3.heap (show w2.drew.heap[w.heap.size + 3]? = _ from hfb) (by simp)
  have hc3 : Chg [] w w3 := (hch1.trans (Chg.drew _ _)).then hch3 (by simp; omega)
  have HFB := hid hfb3
  clear hWr3 hch3 hsz3 hfb hfc hs1 hch1 hWr1 hcl1 hfb3 e7 e9
  go_wp2_with (go_at_call 43; refine (callsIn_wide.1 (digits_in Fence.wide 5 trivial rfl _ ⟨_, _, _, rfl⟩ _)).mono ?_; rintro e w' ⟨rfl, rfl⟩)
  have hal := Chg.alloc [] w3 (.cells #[.slice (some ⟨cb, cof, none⟩) M ccap] 22)
  have HW4 := HW3.keep hal (by simp) (by simp) (by simp)
  have hc4 := hc3.trans hal
  have HF4 := hid (hal.heap HFB.out (by simp))
  have hb4 : (w3.alloc (.cells #[.slice (some ⟨cb, cof, none⟩) M ccap] 22)).heap[w.heap.size + 4]? = some (.cells #[.slice (some ⟨cb, cof, none⟩) M ccap] 22 (0, 0)) := al_new hs3.symm
  have hs4 : (w3.alloc (.cells #[.slice (some ⟨cb, cof, none⟩) M ccap] 22)).heap.size = w.heap.size + 5 := by simp; omega
  clear hal
  generalize w3.alloc (.cells #[.slice (some ⟨cb, cof, none⟩) M ccap] 22) = w4 at *
  have hcb : cb < w.heap.size := block_lt_of_cell (HD.out 0 (by omega))
  clear HW3 hs3 hc3 HFB
  rw [show bits .and .u8 (bN dst (L - 1) : Int) 15 = (bN dst (L - 1) : Int) % 16 from by
    rw [show (15 : Int) = ((15 : Nat) : Int) from rfl, u8_and_nat _ _ hx (by omega), nat_mask4]; omega]
  refine rangeF1 7 6 (by omega) rfl (enters_of Try.func48 (by kernel_rfl) rfl) (fun x : Fin 16 => Value.int .u8 (x.val : Int))
    (digits_stops Fence.wide 5 trivial rfl (by omega) (w.heap.size + 4) cb cof ccap M src hM hM1 hc2 (by omega) w4 (cell_of_one hb4) (fun i hi => hc4.cell (HD.out i hi) (by simp)))
    (fun h k => h.trans k) (KpD.put (by omega) (by omega))
    (fun pre W => Wr W (w.heap.size + 1 + 1) (w.heap.size + 1) w.heap.size L (bN dst (L - 1) % 16 :: pre.map Fin.val) ∧ Chg [] w W ∧ W.heap[w.heap.size + 3]? = some (.cells #[Value.func (.func 47) #[] #[.pointer (some ⟨w.heap.size + 1 + 1, 0, none⟩), .pointer (some ⟨w.heap.size + 1, 0, none⟩)]] 56 (0, 0)) ∧ w.heap.size + 5 ≤ W.heap.size)
    (fun _ _ _ => False)
    (fun s W W' row hs hg hr => ⟨hs.1.turn hg hr, hs.2.1.turn (by omega) hg hr, heap_turn hs.2.2.1 hg hr, Nat.le_trans hs.2.2.2 hg.size⟩)
    (fun _ _ _ _ _ hs _ _ => hs)
    ⟨HW4, hc4, HF4.out, by omega⟩ ?assign ?body ?done ?stop
  case assign =>
    intro l x W K hK
    gi_wp2
    exact hK
  case body =>
    rintro l pre x W ⟨hW, hc, hf, hsz⟩ _
    have hfc := cell_of_one hf
    have HF := hid hf
    clear hf
    have hxl := x.isLt
    simp only [actAt, List.setIfInBounds_toArray, List.set_cons_succ, List.set_cons_zero]
    gi_wp2_with (fail)
    refine ⟨trivial, ?_⟩
    refine (CallsIn.inRound l (callsIn_wide.2 (put_any W _ _ _ L _ x.val hL2 hxl ?hp hW))).mono ?_
    case hp =>
      intro q hq
      simp only [List.mem_cons, List.mem_map] at hq
      rcases hq with rfl | ⟨y, _, rfl⟩
      · omega
      · exact y.isLt
    rintro e W2 ⟨rfl, hW2, hch2, hsz2⟩
    gi_wp2_with (fail)
    refine ⟨KeepsOthers.of_chg_cells hch2 ?_, KpD.of_chg hch2 (by simp) (by simp; omega) (by omega) (by omega), ?_, hc.then hch2 (by simp; omega), hch2.heap HF.out (by simp), by omega⟩
    · intro k hk
      simp only [List.mem_cons, List.not_mem_nil, or_false] at hk
      rcases hk with rfl | rfl
      · exact ⟨_, _, _, hW.at_⟩
      · exact ⟨_, _, _, hW.row⟩
    · rw [List.map_append]; exact hW2
  case done =>
    rintro D ys W hD rfl ⟨hW, hc, hf, hsz⟩ hK
    clear hf
    go_wp2_with (fail)
    refine ⟨by simp, .inl ⟨_, _, rfl, run_takeDeferred hK, ?_⟩⟩
    refine ⟨_, results_tmp rfl _ _ _, rfl, ?_, ?_⟩
    · rw [← nibF_val]
      exact hW.turn (grownBy_putObj' W D (.deferred none)) (B := 0) (fun r e => by cases e; exact ⟨Nat.zero_le _, _, hK, rfl⟩)
    · exact hc.turn (B := w.heap.size) (Nat.le_refl _) (grownBy_putObj' W D (.deferred none)) (fun r e => by cases e; exact ⟨by omega, _, hK, rfl⟩)
  case stop =>
    rintro D c pre W _ _ h _
    exact h.elim

theorem Offset_any (w : World) (v u : Value) (dst src : Go.Proofs.Ytmmhokcdchhciaa.Bs) (hv : Reads w v dst) (hu : Reads w u src) :
    Calls Try.prog 22 #[v, u] w fun e w' => ∃ r, e = .returned r ∧ w'.ownsRow w.heap.size 5 1 r (offS dst src).length ((offS dst src).map eb) ∧ Chg [] w w' := by
  obtain ⟨L, hL⟩ : ∃ L, dst.length = L := ⟨_, rfl⟩
  obtain ⟨M, hM⟩ : ∃ M, src.length = M := ⟨_, rfl⟩
  by_cases h1 : okSize L = true
  · by_cases h2 : okSize M = true
    · have HS := offS_eq dst src (by rw [hL]; exact h1) (by rw [hM]; exact h2)
      obtain ⟨L', e1, hL1, hL2⟩ := ok_nat h1
      obtain rfl : L = L' := by omega
      obtain ⟨M', e2, hM1, hM2⟩ := ok_nat h2
      obtain rfl : M = M' := by omega
      rcases hv.parts hL with ⟨_, h0, _⟩ | ⟨bb, off, cap, rfl, _, hc1, hc2, HC⟩
      · omega
      rcases hu.parts hM with ⟨_, h0, _⟩ | ⟨cb, cof, ccap, rfl, _, hd1, hd2, HD⟩
      · omega
      refine (callsIn_wide.1 (Offset_in w bb off cap cb cof ccap L M dst src hL hM hL1 hL2 hM1 hM2 hc1 hd1 HC HD)).mono ?_
      rintro e w' ⟨rfl, hW, hc⟩
      refine ⟨_, rfl, ?_, hc⟩
      rw [HS, hL, fld_length]
      exact Wr.own hW (by omega) (by omega)
    · have HS := hid (offS_bad dst src (.inr (by rw [hM]; exact h2)))
      obtain ⟨a, cap, rfl⟩ := hv.shape hL
      obtain ⟨b, ccap, rfl⟩ := hu.shape hM
      have hl1 := hv.len_le
      have hl2 := hu.len_le
      unfold maxLen at hl1 hl2
      clear hv hu
      rw [hL] at hl1
      rw [hM] at hl2
      go_enter Try.func22, Try.ntmps22
      go_wp2_with (go_at_call 41; refine (inField_any _ _).mono ?_; rintro e w' ⟨rfl, rfl⟩)
      go_returns
      exact ⟨_, rfl, by rw [HS.out]; exact World.ownsRow_nil _ _ _ _, Chg.refl _ _⟩
  · have HS := hid (offS_bad dst src (.inl (by rw [hL]; exact h1)))
    obtain ⟨a, cap, rfl⟩ := hv.shape hL
    obtain ⟨b, ccap, rfl⟩ := hu.shape hM
    have hl1 := hv.len_le
    unfold maxLen at hl1
    rw [hL] at hl1
    clear hv hu
    go_enter Try.func22, Try.ntmps22
    go_wp2_with (go_at_call 41; refine (inField_any _ _).mono ?_; rintro e w' ⟨rfl, rfl⟩)
    go_returns
    exact ⟨_, rfl, by rw [HS.out]; exact World.ownsRow_nil _ _ _ _, Chg.refl _ _⟩

end Go.Proofs.Ytmmhokcdchhciaa
