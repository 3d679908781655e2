import Derived.Test.YtldkmclfhjcicaaDoorRNam
import Derived.Test.YtldkmclfhjcicaaDoorCWorks
import Derived.Test.YtldkmclfhjcicaaDoorFr
import Derived.WalkSpells
import Derived.Outline
namespace Go.Proofs.YtldkmclfhjcicaaDoor
open Go.RowKit
set_option linter.unusedVariables false
set_option linter.unusedSimpArgs false

theorem wordS_len (n : Nat) : 1 ≤ (wordS n).length ∧ (wordS n).length ≤ 44 := by
  obtain ⟨_, h2, _, h4⟩ := wordB_facts _ (wordB_mem n)
  have h1 : 1 ≤ (wordB n).length := List.length_pos_iff.2 h2
  unfold wordS
  split
  · omega
  · unfold genName dig4; simp; omega
theorem wordStr_any (n : Nat) (hn : n < 256) (WS : ByteArray) (hW : (⟨(wordS n).toArray⟩ : ByteArray) = WS) (w : World) : Calls Tryd.prog 11 #[.int .u8 (n : Int)] w fun e w' => e = .returned (.string WS) ∧ Chg [] w w' := by
  have h := Word_any n hn w
  unfold bsV at h
  rw [hW] at h; exact h

theorem Reads.cell0 {w : World} {b n cap : Nat} {l : Bs} (h : Reads w (.slice (some ⟨b, 0, none⟩) n cap) l) (k : Nat) (hk : k < l.length) : w.cell? ⟨b, k, none⟩ = some (eb (l.getD k 0)) := by
  obtain ⟨a, c, hv, _, _, _, hc⟩ := h
  injection hv with e1 e2 e3
  have h2 := (hc _ e1.symm).2 k hk
  simp only [Nat.zero_add] at h2
  rw [h2, List.getD_eq_getElem?_getD, List.getElem?_eq_getElem hk]; rfl

def pick3 (a b c : Int) : Nat → Int
  | 0 => a
  | 1 => b
  | _ => c
def pick4 (a b c d : ByteArray) : Nat → ByteArray
  | 0 => a
  | 1 => b
  | 2 => c
  | _ => d
set_option maxHeartbeats 8000000 in
set_option maxRecDepth 100000 in
theorem CatalogNames_in (w : World) (S : ByteArray) (n : Int) (wh pt x : Nat) (h1 : wh < 256) (h2 : pt < 256) (h3 : x < 256) (hS : S.size ≤ 9223372036854775807) :
    Calls Tryd.prog 3 #[.string S, .int .i64 n, .int .u8 (wh : Int), .int .u8 (pt : Int), .int .u8 (x : Int)] w fun e w' => e = .returned (.bool true) ∧ Chg [] w w' := by
  obtain ⟨WS, hWS⟩ : ∃ WS, (⟨(wordS wh).toArray⟩ : ByteArray) = WS := ⟨_, rfl⟩
  have hwl : 1 ≤ WS.size ∧ WS.size ≤ 44 := by rw [← hWS, bs_size]; exact wordS_len wh
  have HW := hid (fun W => wordStr_any wh h1 WS hWS W)
  have hmn : (0 : Int) ≤ min (S.size : Int) 60 := by omega
  have hmn2 : min (S.size : Int) 60 ≤ (S.size : Int) := by omega
  obtain ⟨k, hk⟩ : ∃ k, pt % WS.size = k := ⟨_, rfl⟩
  have hkl : k < WS.size := by rw [← hk]; exact Nat.mod_lt _ (by omega)
  have hki : (pt : Int) % (WS.size : Int) = (k : Int) := by rw [← hk]; rfl
  have hw1 : (1 : Int) ≤ (WS.size : Int) := by omega
  have hw0 : ((WS.size : Int) == 0) = false := beq_eq_false_iff_ne.2 (by omega)
  have hkl' : (k : Int) < (WS.size : Int) := by omega
  have hx256 : (x : Int) < 256 := by omega
  have hwls := hwl.2
  clear hwl hWS hk
  go_enter Tryd.func3, Tryd.ntmps3
  go_upto_region 4 with (go_at_call 11; refine (HW.out _).mono ?_; rintro e W1 ⟨rfl, hc1⟩; obtain ⟨cap, W2, hrun, hc2, hlt2, HB⟩ := strBytes W1 WS (by omega); have fz := HB.out.2.1 k hkl; have hcp := HB.out.2.2.1; have hcp2 := HB.out.2.2.2.1; have cz := HB.out.1.cell0 k (by rw [bs_len]; exact hkl))
  obtain ⟨T0, hT0⟩ : ∃ T, S.extract 0 (min (S.size : Int) 60).toNat = T := ⟨_, rfl⟩
  have ht0 : T0.size ≤ 60 := by rw [← hT0, ByteArray.size_extract]; omega
  have hRd := HB.out.2.2.2.2 k hkl (UInt8.ofNat x)
  rw [show eb (UInt8.ofNat x) = .int .u8 (x : Int) from by unfold eb; rw [UInt8.toNat_ofNat', Nat.mod_eq_of_lt (by omega)]] at hRd
  obtain ⟨W3, hW3⟩ : ∃ W', W2.setCell ⟨W1.heap.size, k, none⟩ (.int .u8 (x : Int)) = W' := ⟨_, rfl⟩
  have hc3 : Chg [] w W3 := by rw [← hW3]; exact (hc1.trans hc2).then (Chg.setCell (L := [W1.heap.size]) _ (.inl (by simp)) _) (by intro j hj hlt; rw [List.mem_singleton] at hj; have := hc1.size; omega)
  rw [hW3] at hRd ⊢
  rw [hT0]
  obtain ⟨X, hX⟩ : ∃ X : ByteArray, (⟨(WS.data.toList.set k (UInt8.ofNat x)).toArray⟩ : ByteArray) = X := ⟨_, rfl⟩
  have hXs : X.size ≤ 44 := by rw [← hX, bs_size, List.length_set, bs_len]; exact hwls
  have m1 : ∀ p : Later W3, (convert 22 9 (.slice (some ⟨W1.heap.size, 0, none⟩) WS.size cap)).run Tryd.prog p.w = .ok (.string X) p.w := fun p => by
    rw [← hX]
    exact (hRd.keep p.h (by simp)).str 22 9 5 Tryd.underlying22 Tryd.underlying5 Tryd.underlying9
  have HRd := hid hRd
  have HX := hid hX
  clear hRd hX hW3 hT0 fz hcp hcp2 cz HB hlt2 hrun hmn hmn2 hw0 hw1 hkl' hki
  refine wp_region_later (by kernel_rfl) (by kernel_rfl) (Chg.refl [] W3) ?_
  repeat (first | go_big_quiet_step ((go_at_call 11; exact later_calls (HW.out _))) | quiet_step ((go_at_call 11; exact later_calls (HW.out _))))
  refine wpQuiet_nil ?_
  rintro W4 ⟨⟨_, hc4⟩, rfl⟩
  clear m1
  have hc := hc3.trans hc4
  clear hc1 hc2 hc3 hc4 HRd HX
  obtain ⟨T3, hT3⟩ : ∃ T : ByteArray, WS ++ ⟨#[46]⟩ ++ X = T := ⟨_, rfl⟩
  have ht3 : T3.size ≤ 100 := by have h46 : (⟨#[46]⟩ : ByteArray).size = 1 := rfl; rw [← hT3, ByteArray.size_append, ByteArray.size_append]; omega
  try rw [hT3]
  clear hT3
  have HF : Hid (∃ F : Nat → ByteArray, (∀ k, (F k).size ≤ 100) ∧ ∀ k : Nat, k < 4 → ∀ w, (Instr.index 24 (.agg #[.string T0, .string WS, .string X, .string T3]) (.int .i64 (k : Int))).run Tryd.prog w = .ok (.string (F k)) w) := by
    refine ⟨pick4 T0 WS X T3, fun k => ?_, fun k hk w => ?_⟩
    · rcases k with _ | _ | _ | k
      · exact Nat.le_trans ht0 (by omega)
      · exact Nat.le_trans hwls (by omega)
      · exact Nat.le_trans hXs (by omega)
      · exact ht3
    · rcases (by omega : k = 0 ∨ k = 1 ∨ k = 2 ∨ k = 3) with rfl | rfl | rfl | rfl <;> kernel_rfl
  obtain ⟨F, hF1, hF2⟩ := HF.out
  have HF1 := hid hF1
  have HF2 := hid hF2
  clear HF hF1 hF2
  go_wp2_with (fail)
  clear ht0 hwls hXs ht3 hkl
  go_loopw [13, 15, 16, 17, 18, 19, 48] (fun _ _ _ _ _ _ s48 wr => ∃ k : Nat, k ≤ 4 ∧ s48 = .int .i64 k ∧ Chg [] w wr) (fun _ _ _ _ _ _ i _ => 4 - (intOf i).toNat)
  case atStart => exact ⟨0, by omega, rfl, hc⟩
  case round =>
    clear hc
    obtain ⟨k, hk, rfl, hc⟩ := hrel
    by_cases hlt : k < 4
    · have hlti : (k : Int) < 4 := by omega
      have hF := HF2.out k hlt
      have hFs := HF1.out k
      obtain ⟨T, hT⟩ : ∃ T, F k = T := ⟨_, rfl⟩
      rw [hT] at hF hFs
      clear hT
      have hwi : (wh : Int) < 256 := by omega
      obtain ⟨nb, hnb⟩ : ∃ b, nameOk T.data.toList = b := ⟨_, rfl⟩
      have HN1 : Hid (∀ W, Calls Tryd.prog 14 #[.string T] W fun e w' => e = .returned (.bool nb) ∧ Chg [] W w') := fun W => by rw [← hnb]; exact Name_any T W
      have HN2 : Hid (∀ W, Calls Tryd.prog 15 #[.string T] W fun e w' => e = .returned (.bool nb) ∧ W = w') := fun W => by rw [← hnb]; exact rName_any T W
      have HG1 : Hid (∀ m W, Calls Tryd.prog 12 #[.string T, .int .i64 m] W fun e w' => e = .returned (.tuple #[.string ⟨(genS T.data.toList m).1.toArray⟩, .bool (genS T.data.toList m).2]) ∧ Chg [] W w') := fun m W => Generation_any T m W
      have HG2 : Hid (∀ m W, Calls Tryd.prog 13 #[.string T, .int .i64 m] W fun e w' => e = .returned (.tuple #[.string ⟨(genS T.data.toList m).1.toArray⟩, .bool (genS T.data.toList m).2]) ∧ Chg [] W w') := fun m W => rGen_any T m W
      have HC := hid hc
      obtain ⟨wo, hwo⟩ : ∃ wo : World, wr = wo := ⟨_, rfl⟩
      rw [hwo] at HC ⊢
      clear hnb hc hwo hFs
      go_wp2_with (fail)
      obtain ⟨E, hE⟩ : ∃ E, wrap64 ((IntKind.u64.wrap n).tmod 10000) = E := ⟨_, rfl⟩
      obtain ⟨G, hG⟩ : ∃ G, 1 + (wh : Int) * 40 = G := ⟨_, rfl⟩
      rw [hE, hG]
      clear hE hG hF
      have HH : Hid (∃ g : Nat → Int, ∀ k : Nat, k < 3 → ∀ w, (Instr.index 26 (.agg #[.int .i64 n, .int .i64 E, .int .i64 G]) (.int .i64 (k : Int))).run Tryd.prog w = .ok (.int .i64 (g k)) w) := by
        refine ⟨pick3 n E G, fun k hk w => ?_⟩
        rcases (by omega : k = 0 ∨ k = 1 ∨ k = 2) with rfl | rfl | rfl <;> kernel_rfl
      obtain ⟨g, hg⟩ := HH.out
      have HGG := hid hg
      clear HH hg
      go_loopw [15, 16, 17, 18, 19, 61] (fun _ _ _ _ _ s61 wr => ∃ j : Nat, j ≤ 3 ∧ s61 = .int .i64 j ∧ Chg [] w wr) (fun _ _ _ _ _ i _ => 3 - (intOf i).toNat)
      case atStart => exact ⟨0, by omega, rfl, HC.out⟩
      case round =>
        obtain ⟨j, hj, rfl, hc⟩ := hrel
        by_cases hjl : j < 3
        · have hjli : (j : Int) < 3 := by omega
          have hix := HGG.out j hjl
          obtain ⟨m, hm⟩ : ∃ m, g j = m := ⟨_, rfl⟩
          rw [hm] at hix
          have g1 := HG1.out m
          have g2 := HG2.out m
          obtain ⟨Y, hY⟩ : ∃ Y : ByteArray, (⟨(genS T.data.toList m).1.toArray⟩ : ByteArray) = Y := ⟨_, rfl⟩
          obtain ⟨b, hb⟩ : ∃ b, (genS T.data.toList m).2 = b := ⟨_, rfl⟩
          rw [hY, hb] at g1 g2
          have g1 := hid g1
          have g2 := hid g2
          have HC2 := hid hc
          clear hm hY hb hc
          cases b
          all_goals
            go_wp2_with (first
              | (go_at_call 12; refine (g1.out _).mono ?_; rintro e w1 ⟨rfl, hc1⟩)
              | (go_at_call 13; refine (g2.out _).mono ?_; rintro e w2 ⟨rfl, hc2⟩))
            go_roundw
            case rel => exact ⟨j + 1, by omega, by go_num, (HC2.out.trans hc1).trans hc2⟩
            case measure => simp [intOf]; omega
        · obtain rfl : 3 = j := by omega
          have HC2 := hid hc
          clear hc
          cases nb
          all_goals
            go_wp2_with (first
              | (go_at_call 14; refine (HN1.out _).mono ?_; rintro e w1 ⟨rfl, hc1⟩)
              | (go_at_call 15; refine (HN2.out _).mono ?_; rintro e w2 ⟨rfl, rfl⟩))
            go_roundw
            case rel => exact ⟨k + 1, by omega, by go_num, HC2.out.trans hc1⟩
            case measure => simp [intOf]; omega
    · obtain rfl : 4 = k := by omega
      go_wp2_with (go_at_call 16; refine (works_yes _).mono ?_; rintro e w1 ⟨rfl, hc1⟩)
      go_ret
      exact ⟨rfl, hc.trans hc1⟩

end Go.Proofs.YtldkmclfhjcicaaDoor
