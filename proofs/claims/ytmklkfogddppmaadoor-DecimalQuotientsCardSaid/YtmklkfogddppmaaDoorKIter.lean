/- The iterator over the digits of a field, from right to left. -/
import Derived.Test.YtmklkfogddppmaaDoorProg
import Derived.RangeFuncNested
import Derived.RangeFuncBound
import Derived.RangeFuncCalls
import Derived.RangeFuncLeaves
import Derived.Shelf.Abstract
import Derived.Shelf.RegionOpen
import Derived.WalkKit
import Derived.OwnWalkIn
import Derived.TacticsInMore
import Derived.LoopNIn
import Derived.LoopIn
import Derived.Test.YtmklkfogddppmaaDoorKFrameB
import Derived.Test.YtmklkfogddppmaaDoorKSpecB
namespace Go.Proofs.YtmklkfogddppmaaDoor
open Go.RowKit Go.Shelf
set_option linter.unusedVariables false

attribute [local go_sem] Oper.semAt_some

/-- What a round keeps for the iterator: its own box and the field's block. -/
def KpD (Bs bb : Nat) (W W' : World) : Prop := W'.heap[Bs]? = W.heap[Bs]? ∧ W'.heap[bb]? = W.heap[bb]?
theorem KpD.refl (Bs bb : Nat) (W : World) : KpD Bs bb W W := ⟨rfl, rfl⟩
theorem KpD.trans {Bs bb : Nat} {A B C : World} (h : KpD Bs bb A B) (k : KpD Bs bb B C) : KpD Bs bb A C := ⟨k.1.trans h.1, k.2.trans h.2⟩
theorem KpD.of_chg {Bs bb : Nat} {L : List Nat} {W W' : World} (h : Chg L W W') (h1 : Bs ∉ L) (h2 : bb ∉ L) (l1 : Bs < W.heap.size) (l2 : bb < W.heap.size) : KpD Bs bb W W' := ⟨h.block Bs l1 h1, h.block bb l2 h2⟩
theorem KpD.put {Bs bb : Nat} {w : World} (h1 : Bs < w.heap.size) (h2 : bb < w.heap.size) (W : World) (l : Nat) (o o' : Obj) (hl : w.heap.size ≤ l) (h : W.heap[l]? = some o) (_ : o.isCells = false) (_ : o.isWalk = false) : KpD Bs bb W (W.putObj l o') :=
  have hg := grownBy_putObj' W l o'
  have hlt := (Array.getElem?_eq_some_iff.1 h).1
  ⟨hg.block Bs (by omega) (fun e => by cases e; omega), hg.block bb (by omega) (fun e => by cases e; omega)⟩

/-- The digits as they come. -/
def nibF (b : Bs) : List (Fin 16) := b.reverse.flatMap fun x => [⟨x.toNat % 16, Nat.mod_lt _ (by decide)⟩, ⟨x.toNat / 16, by have := x.toNat_lt; omega⟩]
theorem nibF_val (b : Bs) : (nibF b).map (·.val) = nibr b := by
  unfold nibF nibr
  rw [List.map_flatMap]; rfl
theorem nibF_length (b : Bs) : (nibF b).length = 2 * b.length := by rw [← nibr_length, ← nibF_val, List.length_map]
theorem bN16 (b : Bs) (i : Nat) : bN b i / 16 < 16 := by have := bN_lt b i; omega
theorem nibF_take (b : Bs) (k : Nat) (h : k < b.length) :
    nibF (b.drop (b.length - (k + 1))) = nibF (b.drop (b.length - k)) ++ [⟨bN b (b.length - 1 - k) % 16, Nat.mod_lt _ (by decide)⟩] ++ [⟨bN b (b.length - 1 - k) / 16, bN16 _ _⟩] := by
  have h1 : b.drop (b.length - (k + 1)) = b[b.length - (k + 1)]'(by omega) :: b.drop (b.length - k) := by
    rw [List.drop_eq_getElem_cons (by omega)]
    congr 2; omega
  have h2 : bN b (b.length - 1 - k) = (b[b.length - (k + 1)]'(by omega)).toNat := by
    rw [bN_get _ _ (by omega)]; congr 2; omega
  rw [h1]
  unfold nibF
  rw [List.reverse_cons, List.flatMap_append]
  simp [h2]

theorem nibF_prefix (b : Bs) (k : Nat) (h : k ≤ b.length) : nibF (b.drop (b.length - k)) <+: nibF b := by
  have e : b = b.take (b.length - k) ++ b.drop (b.length - k) := (List.take_append_drop _ _).symm
  conv => rhs; rw [e]
  unfold nibF
  rw [List.reverse_append, List.flatMap_append]
  exact List.prefix_append _ _

set_option maxRecDepth 100000 in
set_option maxHeartbeats 2000000 in
theorem digits1_in (F : Fence) (n : Nat) (hf : F.fn 87) (hro : F.round = none) (hn : 1 ≤ n) (l Bs bb off cap L : Nat) (b : Go.Proofs.YtmklkfogddppmaaDoor.Bs) (J Jx : List (Fin 16) → World → Prop)
    (hL : b.length = L) (hL1 : 1 ≤ L) (hL2 : L ≤ cap) (hL3 : L ≤ 1000)
    (hY : ∀ pre x W, J pre W → pre.length < 2 * L → YieldAt F (n - 1) Tryd.prog l #[.int .u8 ((x : Fin 16).val : Int)] W fun e W' =>
      (e = .returned (.bool true) ∧ J (pre ++ [x]) W' ∧ KpD Bs bb W W') ∨ (e = .returned (.bool false) ∧ Jx (pre ++ [x]) W'))
    (W : World) (hBs : W.cell? ⟨Bs, 0, none⟩ = some (.slice (some ⟨bb, off, none⟩) L cap)) (hc : ∀ i, i < L → W.cell? ⟨bb, off + i, none⟩ = some (.int .u8 (bN b i : Nat))) (h0 : J [] W) :
    CallsIn F n Tryd.prog 87 #[.func (.yield l) #[] #[], .pointer (some ⟨Bs, 0, none⟩)] W fun e W' => (∃ v, e = .returned v) ∧
      ((∃ ys, ys = nibF b ∧ J ys W') ∨ (∃ pre, pre <+: nibF b ∧ Jx pre W')) := by
  have HT := hid (nibF_take b)
  have HPx := hid (nibF_prefix b)
  have HLen : Hid (∀ k, k ≤ L → (nibF (b.drop (L - k))).length = 2 * k) := fun k hk => by rw [nibF_length, List.length_drop]; omega
  have HAll : Hid (b.drop (L - L) = b) := by rw [Nat.sub_self]; rfl
  have hnil : nibF (b.drop (L - 0)) = [] := by rw [Nat.sub_zero, List.drop_of_length_le (by omega)]; rfl
  rw [hL] at HT HPx
  have HC := hid hc; clear hc
  have HBs := hid hBs
  refine callsIn_of_wp Tryd.func87 rfl hf ?_ hro
  simp only [Tryd.ntmps87, List.size_toArray, List.length_cons, List.length_nil, Nat.reduceAdd, Nat.reduceSub, Array.replicate_succ, Array.replicate_zero, List.push_toArray, List.append_toArray, List.nil_append, List.cons_append]
  gi_wp2
  gi_loopw [3] (fun i wr => ∃ k : Nat, k ≤ L ∧ i = .int .i64 ((L : Int) - 1 - k) ∧ J (nibF (b.drop (L - k))) wr ∧ KpD Bs bb W wr)
    (fun i _ => (intOf i + 1).toNat)
  case atStart => exact ⟨0, Nat.zero_le _, by go_num, by rw [hnil]; exact h0, KpD.refl _ _ _⟩
  case round =>
    clear hnil
    obtain ⟨k, hk, rfl, hJs, hnx⟩ := hrel
    by_cases hlt : k < L
    · have hbs := (World.cell?_of_block (w := W) (a := ⟨Bs, 0, none⟩) hnx.1).trans HBs.out
      have hcx := (World.cell?_of_block (w := W) (a := ⟨bb, off + (L - 1 - k), none⟩) hnx.2).trans (HC.out (L - 1 - k) (by omega))
      have hxl := bN_lt b (L - 1 - k)
      obtain ⟨fn, tmps, assign, body, hy, hR⟩ := hY _ ⟨bN b (L - 1 - k) % 16, Nat.mod_lt _ (by decide)⟩ wr hJs (by rw [HLen.out k hk]; omega)
      dsimp only at hy
      rw [show ((bN b (L - 1 - k) % 16 : Nat) : Int) = (bN b (L - 1 - k) : Int) % 16 from rfl] at hy
      have HT2 := hid (HT.out k hlt)
      have HLk := HLen.out k hk
      clear hBs
      gi_wp2
      refine hR.mono ?_
      rintro e W3 (⟨rfl, hJ3, hk3⟩ | ⟨rfl, hJx3⟩)
      · have hbs3 := (World.cell?_of_block (w := wr) (a := ⟨Bs, 0, none⟩) hk3.1).trans hbs
        have hcx3 := (World.cell?_of_block (w := wr) (a := ⟨bb, off + (L - 1 - k), none⟩) hk3.2).trans hcx
        obtain ⟨fn2, tmps2, assign2, body2, hy2, hR2⟩ := hY _ ⟨bN b (L - 1 - k) / 16, bN16 _ _⟩ W3 hJ3 (by rw [List.length_append, HLk]; simp; omega)
        dsimp only at hy2
        rw [show ((bN b (L - 1 - k) / 16 : Nat) : Int) = (bN b (L - 1 - k) : Int) / 16 from rfl] at hy2
        clear hy hR
        gi_wp2
        refine hR2.mono ?_
        rintro e W4 (⟨rfl, hJ4, hk4⟩ | ⟨rfl, hJx4⟩)
        · gi_wp2
          go_roundw
          case rel => exact ⟨k + 1, by omega, by go_num, by rw [HT2.out]; exact hJ4, (hnx.trans hk3).trans hk4⟩
          case measure => simp [intOf]; omega
        · gi_wp2
          refine bodyPost_ret (results_none rfl _ _ _) rfl ?_
          refine ⟨⟨_, rfl⟩, .inr ⟨_, ?_, hJx4⟩⟩
          rw [← HT2.out]; exact HPx.out _ (by omega)
      · gi_wp2
        refine ⟨fun _ h => (by cases h), ?_⟩
        gi_wp2
        refine bodyPost_ret (results_none rfl _ _ _) rfl ?_
        refine ⟨⟨_, rfl⟩, .inr ⟨_, ?_, hJx3⟩⟩
        refine List.IsPrefix.trans ?_ (HPx.out (k + 1) (by omega))
        rw [HT2.out]; exact List.prefix_append _ _
    · obtain rfl : k = L := by omega
      clear hBs
      gi_wp2
      go_end0
      exact ⟨⟨_, rfl⟩, .inl ⟨_, congrArg nibF HAll.out, hJs⟩⟩

/-- digits(b) hands back an iterator over the digits of b. -/
theorem digits_stops (F : Fence) (n : Nat) (hf : F.fn 87) (hro : F.round = none) (hn : 1 ≤ n) (Bs bb off cap L : Nat) (b : Go.Proofs.YtmklkfogddppmaaDoor.Bs)
    (hL : b.length = L) (hL1 : 1 ≤ L) (hL2 : L ≤ cap) (hL3 : L ≤ 1000) (w : World)
    (hBs : w.cell? ⟨Bs, 0, none⟩ = some (.slice (some ⟨bb, off, none⟩) L cap)) (hc : ∀ i, i < L → w.cell? ⟨bb, off + i, none⟩ = some (.int .u8 (bN b i : Nat))) :
    SeqStopsK F n Tryd.prog 87 #[.pointer (some ⟨Bs, 0, none⟩)] (fun x : Fin 16 => #[Value.int .u8 (x.val : Int)]) (KpD Bs bb) (fun ys => ys = nibF b) (fun pre => pre <+: nibF b) (2 * L) w := fun l J Jx W hW _ _ hY h0 =>
  digits1_in F n hf hro hn l Bs bb off cap L b J Jx hL hL1 hL2 hL3 hY W ((hW.cell (p := ⟨Bs, 0, none⟩) (World.block_lt_of_cell? w _ hBs)).trans hBs)
    (fun i hi => (hW.cell (p := ⟨bb, off + i, none⟩) (World.block_lt_of_cell? w _ (hc i hi))).trans (hc i hi)) h0

set_option maxHeartbeats 1000000 in
theorem digits_in (F : Fence) (n : Nat) (hf : F.fn 76) (hro : F.round = none) (v : Value) (hv : ∃ a L cap, v = .slice a L cap) (w : World) :
    CallsIn F n Tryd.prog 76 #[v] w fun e w' => e = .returned (.func (.func 87) #[] #[.pointer (some ⟨w.heap.size, 0, none⟩)]) ∧ w' = w.alloc (.cells #[v] 22) := by
  obtain ⟨a, L, cap, rfl⟩ := hv
  refine callsIn_of_wp Tryd.func76 rfl hf ?_ hro
  simp only [Tryd.ntmps76, List.size_toArray, List.length_cons, List.length_nil, Nat.reduceAdd, Nat.reduceSub, Array.replicate_succ, Array.replicate_zero, List.push_toArray, List.append_toArray, List.nil_append, List.cons_append]
  gi_wp2
  go_ret
  exact ⟨rfl, rfl⟩

end Go.Proofs.YtmklkfogddppmaaDoor
