import Derived.WalkSpells
import Derived.Outline
import Derived.Shelf.RegionOpenPlain
import Derived.Lib.Overlaps
import Derived.Test.YtedbbinlcdgkoaaGreatDoorProg
import Derived.Test.YtedbbinlcdgkoaaGreatDoorVX
import Derived.Test.YtedbbinlcdgkoaaGreatDoorTT
import Derived.Test.YtedbbinlcdgkoaaGreatDoorQC

/- slices.Insert of one unit. -/
namespace Go.Proofs.YtedbbinlcdgkoaaGreatDoor
open Go.RowKit
-- FUSE
-- LESS
set_option linter.unusedVariables false
set_option linter.unusedSimpArgs false
theorem appendZerosK {P : Program} (w : World) (t tn ty e : TypeId) (k bytes : Nat) (z : Value) (kn kq : IntKind) (ht : P.underlying t = some (.slice e)) (htn : P.underlying tn = some (.int kn))
    (hi : (P.info? e).map (fun i => (i.zero, i.size, i.bytes)) = some (some z, k, bytes)) (hk : 0 < k) (hby : bytes ≤ 1000)
    (b : Addr) (sLen sCap n : Nat) (olds : List Value) (hlo : olds.length = sLen * k) (holds : ∀ j v, olds[j]? = some v → w.cell? (b.add j) = some v) (h0 : 0 < n) (hg : sCap < sLen + n) (hM : sLen + n ≤ 1000001) :
    (Builtin.append_ #[t, tn] ty #[.slice (some b) sLen sCap, .int kq n]).run P w = .ok (.slice (some ⟨w.heap.size, 0, none⟩) (sLen + n) (grownCap w (sLen + n) sCap e))
      (w.drew.alloc (.cells (olds.toArray ++ Builtin.zeroCells z.cells n ++ Builtin.zeroCells z.cells (grownCap w (sLen + n) sCap e - (sLen + n))) e)) := by
  cases hq : P.info? e with
  | none => simp [hq] at hi
  | some i =>
    obtain ⟨hz, hs, hb⟩ : i.zero = some z ∧ i.size = k ∧ i.bytes = bytes := by simpa [hq] using hi
    have hmul : ∀ a : Nat, a ≤ 1000001 → a * bytes ≤ 1000001000 := fun a ha => by
      calc a * bytes ≤ 1000001 * 1000 := Nat.mul_le_mul ha hby
        _ = 1000001000 := by rfl
    have hfit := growslice_fits (bytes := bytes) hg (by have := hmul _ hM; omega)
    have hn : ¬ (sLen + n ≤ sCap) := by omega
    have hw : IntKind.i64.wrap (n : Int) = n := by rw [IntKind.wrap_i64]; omega
    have h63' : ¬ (9223372036854775807 < ((sLen : Int) + (n : Int))) := by omega
    have h48' : ¬ (281474976710656 < Builtin.nextslicecap (sLen + n) sCap * bytes) := by omega
    have h48i : ¬ (281474976710656 < (n : Int) * (bytes : Int)) := by
      rw [← Int.natCast_mul]
      have := hmul n (by omega)
      omega
    have hneg : ¬ ((n : Int) < 0) := by omega
    have hns : ¬ (n * k = 0) := Nat.mul_ne_zero (by omega) (by omega)
    have hn0 : n ≠ 0 := by omega
    have hk0 : k ≠ 0 := by omega
    have hfo := run_firstCells_some (P := P) w.drew k sLen b sLen sCap olds hlo (by simpa using holds)
    simp [Builtin.append_, run_underlying ht, run_underlying htn, sizeOf, typeInfo, zeroValue, hq, hz, hs, hb, asInt, asIntOf, hw, hn, hn0, hk0, hneg, hns, h63', h48', h48i, Question.forced, hfo, newRow, grownCap]

theorem info_uni : (Tryz.prog.info? 58).map (fun i => (i.zero, i.size, i.bytes)) = some (some (Value.agg #[.int .i64 0, .int .i64 0, .string ⟨#[]⟩, .int .i64 0, .int .i64 0]), 5, 48) := by kernel_rfl
theorem sizeOf_U : ∀ w, (Go.sizeOf 58).run Tryz.prog w = .ok 5 w := fun w => by
  have h : (Tryz.prog.info? 58).map (·.size) = some 5 := by kernel_rfl
  cases hq : Tryz.prog.info? 58 with
  | none => simp [hq] at h
  | some i =>
    have h2 : i.size = 5 := by simpa [hq] using h
    simp [Go.sizeOf, typeInfo, hq, h2]
set_option maxHeartbeats 4000000 in
set_option maxRecDepth 100000 in
theorem insU_any (w : World) (B : Nat) (v : Value) (n i gu : Nat) (tu : TypeId) (xs news restu : List Value) (cu : Nat) (hcu : 1 ≤ cu) (hcm0 : cu ≤ maxLen) (hown : w.ownsRow B 58 5 v n xs) (hi : i ≤ n) (hM : n ≤ 1000000) (h1 : ∀ u ∈ xs, u.oneCell' = true)
    (hU : w.heap[gu]? = some (.cells (news ++ restu).toArray tu (0, 0))) (hul : news.length = 5) (h1u : ∀ u ∈ news, u.oneCell' = true) (hgu : ∀ j ∈ own v, gu ≠ j) (hBw : B ≤ w.heap.size) :
    Calls Tryz.prog 96 #[v, .int .i64 i, .slice (some ⟨gu, 0, none⟩) 1 cu] w fun e w' =>
      ∃ u, e = .returned u ∧ w'.ownsRow B 58 5 u (n + 1) (xs.take (i * 5) ++ news ++ xs.drop (i * 5)) ∧ Chg (own v) w w' ∧ (∀ b, u.ownBlock = some b → v.ownBlock = some b ∨ w.heap.size ≤ b) := by
  have mixed : Tryz.prog.follows .mixedOrders = true := by kernel_rfl
  have hxl := hown.1
  have hucell : ∀ j u, news[j]? = some u → w.cell? ⟨gu, j, none⟩ = some u := fun j u hj => by
    rw [cell_of_row w gu j _ _ _ hU, List.getElem?_toArray, List.getElem?_append_left (List.getElem?_eq_some_iff.1 hj).1]; exact hj
  rcases Nat.eq_or_lt_of_le hi with rfl | hlt
  · -- at the end
    have hv : RdK w 5 (.slice (some ⟨gu, 0, none⟩) 1 cu) 1 news := ⟨_, _, rfl, hcu, hcm0, by simpa using hul, (by simp), (fun x hx => by cases hx; exact ⟨rfl, fun j u hj => by simpa using hucell j u hj⟩)⟩
    obtain ⟨va, vc, rfl⟩ := (RdK.of_own hown).shape
    have hnil : ∀ a c, Value.slice va i vc = .slice a 0 c → i = 0 := by intro a c h; cases h; rfl
    obtain ⟨ti, t1, t2, t3, t4⟩ := info_parts info_uni
    have hsrc : Src Tryz.prog 5 22 (.slice (some ⟨gu, 0, none⟩) 1 cu) 1 news w := Src.ofSlice w Tryz.underlying22 ⟨gu, 0, none⟩ 1 cu news (by simpa using hul) (fun j u hj => by rw [add_at, Nat.zero_add]; exact hucell j u hj) h1u
    obtain ⟨v', W', r1, r2, r3, _⟩ := append_own2 (P := Tryz.prog) w B 22 22 22 58 ti _ Tryz.underlying22 t1 t2 (by rw [t3]; rfl) (.slice va i vc) i xs (by rw [t3]; exact hown) (.slice (some ⟨gu, 0, none⟩) 1 cu) 1 news (by rw [t3]; exact hsrc) (by unfold maxLen; omega) (by rw [t4]; omega) hBw
    rw [t3] at r2
    have HAP := hid r1
    have HR2 := hid r2
    have HCH := hid r3.chg
    have HWH : Hid (∀ b, v'.ownBlock = some b → (Value.slice va i vc).ownBlock = some b ∨ w.heap.size ≤ b) := hid (fun b hb => by
      rcases r3.where' with q | q
      · rw [q] at hb; exact .inl hb
      · rw [q] at hb; injection hb with hb; exact .inr (by omega))
    have hvl : i ≤ vc := by
      rcases hown.2 with ⟨h, h0⟩ | ⟨g, cap, cur, h, _, _, hh, _⟩
      · omega
      · cases h; exact hh
    clear hown hU hucell hv hsrc r1 r2 r3 t1 t2 t3 t4
    go_enter Tryz.func96, Tryz.ntmps96
    go_wp2_with (at_builtin; refine Lib.wpList_append_run _ rfl _ _ 22 22 rfl _ _ rfl rfl _ _ HAP.out ?_)
    all_goals
      go_ret
      have e1 : xs.take (i * 5) = xs := List.take_of_length_le (by omega)
      have e2 : xs.drop (i * 5) = [] := List.drop_of_length_le (by omega)
      rw [e1, e2, List.append_nil]
      refine ⟨_, rfl, HR2.out, by first | exact HCH.out | (cases va <;> exact HCH.out), fun b hb => by first | exact HWH.out b hb | (cases va <;> exact HWH.out b hb)⟩
  · obtain ⟨g, cap, cur, rest, rfl, hB, hltg, hg, hnc, hcm, hcur, _, hrl⟩ := own_row hown (by omega)
    have hcm' : cap ≤ 9223372036854775807 := hcm
    have hcsz : cur.size = cap * 5 := by rw [← Array.length_toList, hcur, List.length_append, hxl, hrl]; omega
    have hgg : gu ≠ g := hgu g (by simp [own, Value.ownBlock])
    have hdl : (xs.drop (i * 5)).length = (n - i) * 5 := by rw [List.length_drop, hxl]; omega
    have htl : (xs.take (i * 5)).length = i * 5 := by rw [List.length_take, hxl]; omega
    have hxcell : ∀ j u, xs[j]? = some u → w.cell? ⟨g, j, none⟩ = some u := fun j u hj => by
      rw [cell_of_row w g j _ _ _ hg, ← Array.getElem?_toList, hcur, List.getElem?_append_left (List.getElem?_eq_some_iff.1 hj).1]; exact hj
    by_cases hroom : n + 1 ≤ cap
    · -- into the room
      have hov : ∀ lb cb, (callFunc 118 #[.slice (some ⟨gu, 0, none⟩) 1 cu, .slice (some ⟨g, (i + 1) * 5, none⟩) lb cb]).run Tryz.prog w = .ok (.value (.bool false)) w := fun lb cb => by
        rw [run_callFunc_extern Tryz.func118 (by kernel_rfl) (by kernel_rfl) (by kernel_rfl) (e := Extern.SlicesOverlaps.overlaps #[22, 22] #[4]) (by kernel_rfl),
          Lib.run_overlaps_apart w 22 4 58 Tryz.underlying22 5 sizeOf_U ⟨gu, 0, none⟩ ⟨g, (i + 1) * 5, none⟩ 1 cu lb cb hgg tu 58 (news ++ restu).length cur.size (by simp [World.shape?, hU]) (by simp [World.shape?, hg]) (by omega)
            (by simp [World.frozen?, hU]) (by simp [World.frozen?, hU])]
        rfl
      have hcp1 : ∀ ty, (Builtin.copy_ #[22, 22] ty #[.slice (some ⟨g, (i + 1) * 5, none⟩) (n + 1 - (i + 1)) (cap - (i + 1)), .slice (some ⟨g, i * 5, none⟩) (n + 1 - i) (cap - i)]).run Tryz.prog w.drew = .ok (goInt (Nat.min (n + 1 - i) (n + 1 - (i + 1)))) (w.drew.setRow g (spl cur.toList ((i + 1) * 5) (xs.drop (i * 5))).toArray) := fun ty =>
        copyK w.drew _ _ ty 58 5 g ((i + 1) * 5) _ _ ⟨g, i * 5, none⟩ _ _ cur 58 _ Tryz.underlying22 (by kernel_rfl) hg (by rw [hdl, show Nat.min (n + 1 - i) (n + 1 - (i + 1)) = n - i from by simp only [Nat.min_def]; split <;> omega])
          (fun j u hj => by rw [Addr.add_lit]; rw [List.getElem?_drop] at hj; exact hxcell _ _ hj) (by rw [hdl, hcsz]; omega) (fun u hu => h1 u (List.mem_of_mem_drop hu))
      obtain ⟨row1, hrow1⟩ : ∃ r, spl cur.toList ((i + 1) * 5) (xs.drop (i * 5)) = r := ⟨_, rfl⟩
      have hr1 : row1.length = cap * 5 := by rw [← hrow1, spl_len _ _ _ (by rw [hdl, Array.length_toList, hcsz]; omega), Array.length_toList, hcsz]
      rw [hrow1] at hcp1
      obtain ⟨W1, hW1⟩ : ∃ W1, w.drew.setRow g row1.toArray = W1 := ⟨_, rfl⟩
      rw [hW1] at hcp1
      have hg1 : W1.heap[g]? = some (.cells row1.toArray 58 (0, 0)) := by rw [← hW1]; exact setRow_heap w.drew g _ _ _ _ hg
      have hU1 : W1.heap[gu]? = some (.cells (news ++ restu).toArray tu (0, 0)) := by rw [← hW1, setRow_other _ _ _ _ hgg]; exact hU
      have hcp2 : ∀ ty, (Builtin.copy_ #[22, 22] ty #[.slice (some ⟨g, i * 5, none⟩) (n + 1 - i) (cap - i), .slice (some ⟨gu, 0, none⟩) 1 cu]).run Tryz.prog W1 = .ok (goInt (Nat.min 1 (n + 1 - i))) (W1.setRow g (spl row1.toArray.toList (i * 5) news).toArray) := fun ty =>
        copyK W1 _ _ ty 58 5 g (i * 5) _ _ ⟨gu, 0, none⟩ _ _ row1.toArray 58 _ Tryz.underlying22 (by kernel_rfl) hg1 (by rw [hul, show Nat.min 1 (n + 1 - i) = 1 from by simp only [Nat.min_def]; split <;> omega])
          (fun j u hj => by rw [Addr.add_lit, cell_of_row W1 gu _ _ _ _ hU1, List.getElem?_toArray, Nat.zero_add, List.getElem?_append_left (List.getElem?_eq_some_iff.1 hj).1]; exact hj) (by rw [hul, List.size_toArray, hr1]; omega) h1u
      have HCP1 := hid hcp1
      have HCP2 := hid hcp2
      have HOV := hid hov
      have HG1 := hid hg1
      have HW1 := hid hW1
      have HR1 := hid hrow1
      have hic : i ≤ cap := by omega
      have hi1c : i + 1 ≤ cap := by omega
      have hn1 : i + 1 ≤ n + 1 := by omega
      have hb1 : ¬ (cap = i) := by omega
      have hw1 : IntKind.i64.wrap ((i : Int) + 1) = (i : Int) + 1 := by rw [IntKind.wrap_i64]; omega
      have hp1 : (0 : Int) ≤ (i : Int) + 1 := by omega
      have htn : ((i : Int) + 1).toNat = i + 1 := by omega
      have hb3 : (i : Int) + 1 ≤ (n : Int) + 1 := by omega
      have hb5 : (i : Int) ≤ (n : Int) + 1 := by omega
      have hb2 : ¬ (cap = i + 1) := by omega
      have hz2 : ¬ ((i : Int) = (n : Int)) := by omega
      clear hcp1 hcp2 hov hg1 hW1 hrow1 hr1 hcsz hU hU1 hucell hxcell hg
      go_enter Tryz.func96, Tryz.ntmps96
      go_wp2_with fail
      go_wp2_with (simp only [HOV.out])
      go_region_law_o (refine step_copy_run rfl (.tmp 73) (.tmp 76) 22 22 rfl (.slice (some ⟨g, (i + 1) * 5, none⟩) (n + 1 - (i + 1)) (cap - (i + 1))) (.slice (some ⟨g, i * 5, none⟩) (n + 1 - i) (cap - i)) (by simp [Act.eval, Act.put]) (by simp [Act.eval, Act.put]) (HCP1.out _) ?_)
      go_wp2_with (simp only [HCP2.out])
      go_ret
      have hd := insert_cells xs rest n i 5 hlt hxl (by rw [hrl]; omega) news hul
      refine ⟨_, rfl, ?_, ?_, fun b hb => .inl hb⟩
      · refine own_of_row (rest := rest.drop 5) hB (setRow_heap W1 g _ _ _ _ HG1.out) hroom hcm ?_ ?_ ?_
        · rw [← HR1.out, hcur]; simpa using hd
        · rw [List.length_append, List.length_append, htl, hdl, hul]; omega
        · rw [List.length_drop, hrl]; omega
      · rw [← HW1.out]
        exact ((Chg.drew _ w).trans (chg_setRow [g] w.drew g _ (.inl (by simp)))).trans (chg_setRow [g] _ g _ (.inl (by simp)))
    · -- into a new row
      have hnc' : n = cap := by omega
      subst hnc'
      obtain ⟨m, hm⟩ : ∃ m, n + 1 - i = m := ⟨_, rfl⟩
      have hap := fun ty => appendZerosK (P := Tryz.prog) w 22 3 ty 58 5 48 _ .i64 .i64 Tryz.underlying22 Tryz.underlying3 info_uni (by decide) (by decide) ⟨g, 0, none⟩ i n m (xs.take (i * 5)) htl
        (fun j u hj => by rw [Addr.add_lit, Nat.zero_add]; exact hxcell j u (List.getElem?_eq_some_iff.2 (by obtain ⟨a, b⟩ := List.getElem?_eq_some_iff.1 hj; exact ⟨by rw [List.length_take] at a; omega, by rw [List.getElem_take] at b; exact b⟩))) (by omega) (by omega) (by omega)
      have him : i + m = n + 1 := by omega
      rw [him] at hap
      have hge := grownCap_ge w (n + 1) n 58
      have hgm : grownCap w (n + 1) n 58 ≤ maxLen := grownCap_le_maxLen w (n + 1) n 58 (by simp only [maxLen]; omega)
      generalize grownCap w (n + 1) n 58 = gc at hap hge hgm
      obtain ⟨Z1, hZ1⟩ : ∃ Z1, (Builtin.zeroCells (Value.agg #[.int .i64 0, .int .i64 0, .string ⟨#[]⟩, .int .i64 0, .int .i64 0]).cells m).toList = Z1 := ⟨_, rfl⟩
      obtain ⟨Z2, hZ2⟩ : ∃ Z2, (Builtin.zeroCells (Value.agg #[.int .i64 0, .int .i64 0, .string ⟨#[]⟩, .int .i64 0, .int .i64 0]).cells (gc - (n + 1))).toList = Z2 := ⟨_, rfl⟩
      have hz1 : Z1.length = (n + 1 - i) * 5 := by rw [← hZ1, zeroCells_len, hm]; rfl
      have hz2 : Z2.length = (gc - (n + 1)) * 5 := by rw [← hZ2, zeroCells_len]; rfl
      obtain ⟨R0, hR0⟩ : ∃ R0, (xs.take (i * 5)).toArray ++ Builtin.zeroCells (Value.agg #[.int .i64 0, .int .i64 0, .string ⟨#[]⟩, .int .i64 0, .int .i64 0]).cells m ++ Builtin.zeroCells (Value.agg #[.int .i64 0, .int .i64 0, .string ⟨#[]⟩, .int .i64 0, .int .i64 0]).cells (gc - (n + 1)) = R0 := ⟨_, rfl⟩
      have hR0l : R0.toList = xs.take (i * 5) ++ Z1 ++ Z2 := by rw [← hR0, Array.toList_append, Array.toList_append, hZ1, hZ2]
      rw [hR0] at hap
      have hR0s : R0.size = gc * 5 := by rw [← Array.length_toList, hR0l, List.length_append, List.length_append, htl, hz1, hz2]; omega
      clear hR0 hZ1 hZ2
      obtain ⟨g', hg'⟩ : ∃ g', w.heap.size = g' := ⟨_, rfl⟩
      rw [hg'] at hap
      obtain ⟨W1, hW1⟩ : ∃ W1, w.drew.alloc (.cells R0 58) = W1 := ⟨_, rfl⟩
      rw [hW1] at hap
      have hg1 : W1.heap[g']? = some (.cells R0 58 (0, 0)) := by rw [← hW1, ← hg']; exact heap_alloc_new w.drew _
      have hgug : gu < w.heap.size := lt_of_block hU
      have hU1 : W1.heap[gu]? = some (.cells (news ++ restu).toArray tu (0, 0)) := by rw [← hW1]; exact (heap_alloc_old w.drew _ hgug).trans hU
      have hgo1 : W1.heap[g]? = some (.cells cur 58 (0, 0)) := by rw [← hW1]; exact (heap_alloc_old w.drew _ hltg).trans hg
      have hcp1 : ∀ ty, (Builtin.copy_ #[22, 22] ty #[.slice (some ⟨g', i * 5, none⟩) (n + 1 - i) (gc - i), .slice (some ⟨gu, 0, none⟩) 1 cu]).run Tryz.prog W1 = .ok (goInt (Nat.min 1 (n + 1 - i))) (W1.setRow g' (spl R0.toList (i * 5) news).toArray) := fun ty =>
        copyK W1 _ _ ty 58 5 g' (i * 5) _ _ ⟨gu, 0, none⟩ _ _ R0 58 _ Tryz.underlying22 (by kernel_rfl) hg1 (by rw [hul, show Nat.min 1 (n + 1 - i) = 1 from by simp only [Nat.min_def]; split <;> omega])
          (fun j u hj => by rw [Addr.add_lit, cell_of_row W1 gu _ _ _ _ hU1, List.getElem?_toArray, Nat.zero_add, List.getElem?_append_left (List.getElem?_eq_some_iff.1 hj).1]; exact hj) (by rw [hul, hR0s]; omega) h1u
      obtain ⟨row1, hrow1⟩ : ∃ r, spl R0.toList (i * 5) news = r := ⟨_, rfl⟩
      have hr1 : row1.length = gc * 5 := by rw [← hrow1, spl_len _ _ _ (by rw [hul, Array.length_toList, hR0s]; omega), Array.length_toList, hR0s]
      rw [hrow1] at hcp1
      obtain ⟨W2, hW2⟩ : ∃ W2, W1.setRow g' row1.toArray = W2 := ⟨_, rfl⟩
      rw [hW2] at hcp1
      have hg2 : W2.heap[g']? = some (.cells row1.toArray 58 (0, 0)) := by rw [← hW2]; exact setRow_heap W1 g' _ _ _ _ hg1
      have hgo2 : W2.heap[g]? = some (.cells cur 58 (0, 0)) := by rw [← hW2, setRow_other _ _ _ _ (by omega)]; exact hgo1
      have hcp2 : ∀ ty, (Builtin.copy_ #[22, 22] ty #[.slice (some ⟨g', (i + 1) * 5, none⟩) (n + 1 - (i + 1)) (gc - (i + 1)), .slice (some ⟨g, i * 5, none⟩) (n - i) (n - i)]).run Tryz.prog W2.drew = .ok (goInt (Nat.min (n - i) (n + 1 - (i + 1)))) (W2.drew.setRow g' (spl row1.toArray.toList ((i + 1) * 5) (xs.drop (i * 5))).toArray) := fun ty =>
        copyK W2.drew _ _ ty 58 5 g' ((i + 1) * 5) _ _ ⟨g, i * 5, none⟩ _ _ row1.toArray 58 _ Tryz.underlying22 (by kernel_rfl) hg2 (by rw [hdl, show Nat.min (n - i) (n + 1 - (i + 1)) = n - i from by simp only [Nat.min_def]; split <;> omega])
          (fun j u hj => by
            rw [Addr.add_lit]
            rw [List.getElem?_drop] at hj
            refine Eq.trans (cell_of_row W2 g _ _ _ _ hgo2) ?_
            rw [← Array.getElem?_toList, hcur, List.getElem?_append_left (List.getElem?_eq_some_iff.1 hj).1]; exact hj) (by rw [hdl, List.size_toArray, hr1]; omega) (fun u hu => h1 u (List.mem_of_mem_drop hu))
      have HAP := hid hap
      have HCP1 := hid hcp1
      have HCP2 := hid hcp2
      have HG2 := hid hg2
      have HW1 := hid hW1
      have HW2 := hid hW2
      have HR1 := hid hrow1
      have HM := hid hm
      have HIM := hid him
      have hwm : IntKind.i64.wrap ((n : Int) + 1 - (i : Int)) = (m : Int) := by rw [IntKind.wrap_i64]; omega
      have hin : i ≤ n := by omega
      have hb0 : ¬ (n = i) := by omega
      have hb1 : ¬ (gc = i) := by omega
      have hb2 : ¬ (gc = i + 1) := by omega
      have hgi : i ≤ gc := by omega
      have hgi1 : i + 1 ≤ gc := by omega
      have hz0 : ¬ ((i : Int) = (n : Int)) := by omega
      have hw1 : IntKind.i64.wrap ((i : Int) + 1) = (i : Int) + 1 := by rw [IntKind.wrap_i64]; omega
      have hp1 : (0 : Int) ≤ (i : Int) + 1 := by omega
      have htn : ((i : Int) + 1).toNat = i + 1 := by omega
      have hb3 : (i : Int) + 1 ≤ (n : Int) + 1 := by omega
      have hb5 : (i : Int) ≤ (n : Int) + 1 := by omega
      have hgc63 : gc ≤ 9223372036854775807 := hgm
      clear hap hcp1 hcp2 hg1 hg2 hW1 hW2 hrow1 hr1 hcsz hU hU1 hucell hxcell hg hgo1 hgo2 hR0s him hm
      go_enter Tryz.func96, Tryz.ntmps96
      go_wp2_with (at_builtin; refine Lib.wpList_append_run _ rfl _ _ 22 3 rfl (.slice (some ⟨g, 0, none⟩) i n) (.int .i64 m) rfl rfl _ _ (HAP.out _) ?_)
      go_wp2_with (simp only [HCP1.out])
      go_region_law_o (refine step_copy_run rfl (.tmp 50) (.tmp 53) 22 22 rfl (.slice (some ⟨g', (i + 1) * 5, none⟩) (n + 1 - (i + 1)) (gc - (i + 1))) (.slice (some ⟨g, i * 5, none⟩) (n - i) (n - i)) (by simp [Act.eval, Act.put]) (by simp [Act.eval, Act.put]) (HCP2.out _) ?_)
      go_wp2_with fail
      go_ret
      have hd := insert_new (xs.take (i * 5)) Z1 Z2 (xs.drop (i * 5)) news n i 5 hlt htl hz1 hdl hul
      refine ⟨_, rfl, ?_, ?_, fun b hb => .inr (by have h9 : g' = b := (by simpa [Value.ownBlock] using hb); omega)⟩
      · refine own_of_row (rest := Z2) (by omega) (setRow_heap W2.drew g' _ _ _ _ HG2.out) hge hgm ?_ ?_ hz2
        · rw [← HR1.out, hR0l]; simpa using hd
        · rw [List.length_append, List.length_append, htl, hdl, hul]; omega
      · rw [← HW2.out, ← HW1.out]
        exact (((Chg.drew _ w).trans (Chg.alloc _ w.drew _)).then (chg_setRow [g'] _ g' _ (.inl (by simp))) (fun j hj hlt => by rw [List.mem_singleton] at hj; omega)).then ((Chg.drew _ _).trans (chg_setRow [g'] _ g' _ (.inl (by simp)))) (fun j hj hlt => by rw [List.mem_singleton] at hj; omega)

end Go.Proofs.YtedbbinlcdgkoaaGreatDoor

/- Layer 19: the lines STORE and PART. -/
namespace Go.Proofs.YtedbbinlcdgkoaaGreatDoor
open Go.RowKit
-- FUSE
-- LESS
set_option linter.unusedVariables false
set_option linter.unusedSimpArgs false
def strR (s : Bs) : List V := [.str s]
theorem str_row {l : List Bs} {k : Nat} (h : k < l.length) : (l.map strR).getD k [] = [.str l[k]] := by simp [List.getD_eq_getElem?_getD, List.getElem?_eq_getElem h, strR]
def cfgO (c : CfgT) : List (Nat × Ob) := [(1000000, .box 25 [.own 1000011 (c.us.map uniC).length, .int .i64 c.store, .own 1000002 (c.ps.map parC).length]), (1000011, .arr 5 58 (c.us.map uniC)), (1000002, .arr 2 65 (c.ps.map parC))]
def storeT (c : CfgT) (l : List Bs) : CfgT × Bool := if decide ((l.length : Int) = 2) && decide (c.store = 0) && sizT (numT (l.getD 1 [])) then ({ c with store := numT (l.getD 1 []) }, true) else (c, false)
set_option maxHeartbeats 8000000 in
set_option maxRecDepth 4000 in
theorem doStore_B (c : CfgT) (l : List Bs) (h2 : 2 ≤ l.length) (hl : ∀ s ∈ l, s.length ≤ 1000000) (hl2 : l.length ≤ 1000000) :
    SpecB Tryz.prog 66 [.ptr 1000000 0, .sl 1 (l.map strR)] (cfgO c) (.bool (storeT c l).2) (cfgO (storeT c l).1) := by
  have hget := str_row (l := l) (k := 1) (by omega)
  have hD : l.getD 1 [] = l[1]'(by omega) := by simp [List.getD_eq_getElem?_getD, List.getElem?_eq_getElem (show 1 < l.length by omega)]
  have hnu := number_spec (l[1]'(by omega)) (hl _ (List.getElem_mem _))
  have hsz := isSize_spec (numT (l[1]'(by omega)))
  have hst : storeT c l = if decide ((l.length : Int) = 2) && decide (c.store = 0) && sizT (numT (l[1]'(by omega))) then ({ c with store := numT (l[1]'(by omega)) }, true) else (c, false) := by unfold storeT; rw [hD]
  obtain ⟨n, hn⟩ : ∃ n, numT (l[1]'(by omega)) = n := ⟨_, rfl⟩
  rw [hn] at hnu hsz hst
  obtain ⟨b1, e1⟩ : ∃ b, decide ((l.length : Int) = 2) = b := ⟨_, rfl⟩
  obtain ⟨b2, e2⟩ : ∃ b, decide (c.store = 0) = b := ⟨_, rfl⟩
  obtain ⟨b3, e3⟩ : ∃ b, sizT n = b := ⟨_, rfl⟩
  rw [e3] at hsz
  rw [e1, e2, e3] at hst
  unfold cfgO
  cases b1 <;> cases b2 <;> cases b3
  all_goals
    simp only [Bool.and_false, Bool.false_and, Bool.and_true, Bool.and_self, Bool.false_eq_true, if_false, if_true] at hst
    rw [hst]
    refine specB_of tt_ok Tryz.func66 rfl (by decide) Tryz.ntmps66 (congrArg Array.toList Tryz.results66) (by simp) (by decide) rfl (by simp only [go_sem, Int.reduceEq, Int.reduceLT, Nat.reduceEqDiff, Nat.reduceAdd, Nat.reduceMul, Nat.reduceLT, Nat.reduceLeDiff, Int.reduceToNat]) (fun F hF => ?_)
    refine vwp_seq_k fun Na hNa => vreg tt_ok hF rfl ?_; simp only [go_sem, Int.reduceEq, Int.reduceLT, Nat.reduceEqDiff, Nat.reduceAdd, Nat.reduceMul, Nat.reduceLT, Nat.reduceLeDiff, Int.reduceToNat]
    refine hNa _ (VWp.keepR [0,1] [1000000,1000011,1000002] tt_ok hF rfl fun Nb hNb => ?_); simp only [hget, List.length_map, go_sem, Int.reduceEq, Int.reduceLT, Nat.reduceEqDiff, Nat.reduceAdd, Nat.reduceMul, Nat.reduceLT, Nat.reduceLeDiff, Int.reduceToNat]
    refine ⟨by omega, ?_⟩
    refine .inl ⟨_, hnu, ?_⟩; try simp only [go_sem, Int.reduceEq, Int.reduceLT, Nat.reduceEqDiff, Nat.reduceAdd, Nat.reduceMul, Nat.reduceLT, Nat.reduceLeDiff, Int.reduceToNat]
    refine hNb _ (VWp.keep [0,1,5] [1000000,1000011,1000002] ?_); simp only [go_sem, Int.reduceEq, Int.reduceLT, Nat.reduceEqDiff, Nat.reduceAdd, Nat.reduceMul, Nat.reduceLT, Nat.reduceLeDiff, Int.reduceToNat]
    refine vwp_seq_k fun Nc hNc => ?_
    refine vwp_seq_k fun Nd hNd => vreg tt_ok hF rfl ?_; simp only [e1, e2, go_sem, Int.reduceEq, Int.reduceLT, Nat.reduceEqDiff, Nat.reduceAdd, Nat.reduceMul, Nat.reduceLT, Nat.reduceLeDiff, Int.reduceToNat]
    try (refine .inl ⟨_, hsz, ?_⟩; try simp only [go_sem, Int.reduceEq, Int.reduceLT, Nat.reduceEqDiff, Nat.reduceAdd, Nat.reduceMul, Nat.reduceLT, Nat.reduceLeDiff, Int.reduceToNat])
    refine hNd _ (VWp.keep [0,5,24] [1000000,1000011,1000002] ?_); simp only [go_sem, Int.reduceEq, Int.reduceLT, Nat.reduceEqDiff, Nat.reduceAdd, Nat.reduceMul, Nat.reduceLT, Nat.reduceLeDiff, Int.reduceToNat]
    first
      | (refine vif rfl ⟨fun ht => ?_, (fun hf => by first | exact absurd hf (by decide) | (rw [e1] at hf; exact absurd hf (by decide)) | (rw [e2] at hf; exact absurd hf (by decide)))⟩
         refine vwp_seq_k fun Ne hNe => vreg tt_ok hF rfl ?_; simp only [go_sem, Int.reduceEq, Int.reduceLT, Nat.reduceEqDiff, Nat.reduceAdd, Nat.reduceMul, Nat.reduceLT, Nat.reduceLeDiff, Int.reduceToNat]
         refine hNe _ (VWp.keep [4] [1000000,1000011,1000002] ?_); simp only [go_sem, Int.reduceEq, Int.reduceLT, Nat.reduceEqDiff, Nat.reduceAdd, Nat.reduceMul, Nat.reduceLT, Nat.reduceLeDiff, Int.reduceToNat]
         refine vwp_ret ?_
         simp only [go_sem, Int.reduceEq, Int.reduceLT, Nat.reduceEqDiff, Nat.reduceAdd, Nat.reduceMul, Nat.reduceLT, Nat.reduceLeDiff, Int.reduceToNat]
         first | done | exact LeV.refl _ | exact ⟨LeV.refl _, by first | rfl | simp⟩ )
      | (refine vif rfl ⟨(fun ht => by first | exact absurd ht (by decide) | (rw [e1] at ht; exact absurd ht (by decide)) | (rw [e2] at ht; exact absurd ht (by decide))), fun hf => ?_⟩
         refine vwp_skip (hNc _ ?_)
         refine vwp_seq_k fun Nf hNf => vreg tt_ok hF rfl ?_; simp only [go_sem, Int.reduceEq, Int.reduceLT, Nat.reduceEqDiff, Nat.reduceAdd, Nat.reduceMul, Nat.reduceLT, Nat.reduceLeDiff, Int.reduceToNat]
         refine hNf _ (VWp.keepR [] [1000000,1000011,1000002] tt_ok hF rfl fun Ng hNg => ?_); simp only [go_sem, Int.reduceEq, Int.reduceLT, Nat.reduceEqDiff, Nat.reduceAdd, Nat.reduceMul, Nat.reduceLT, Nat.reduceLeDiff, Int.reduceToNat]
         refine hNg _ (VWp.keep [4] [1000000,1000011,1000002] ?_); simp only [go_sem, Int.reduceEq, Int.reduceLT, Nat.reduceEqDiff, Nat.reduceAdd, Nat.reduceMul, Nat.reduceLT, Nat.reduceLeDiff, Int.reduceToNat]
         refine vwp_ret ?_
         simp only [go_sem, Int.reduceEq, Int.reduceLT, Nat.reduceEqDiff, Nat.reduceAdd, Nat.reduceMul, Nat.reduceLT, Nat.reduceLeDiff, Int.reduceToNat]
         first | done | exact LeV.refl _ | exact ⟨LeV.refl _, by first | rfl | simp⟩)
def lpT (l : List Bs) : ParT := ⟨numT (l.getD 1 []), l.getD 2 []⟩
def lpartT (c : CfgT) (l : List Bs) : CfgT × Bool := if decide ((l.length : Int) = 3) && !decide ((4 : Int) ≤ c.ps.length) && partT (lpT l) then ({ c with ps := c.ps ++ [lpT l] }, true) else (c, false)
set_option maxHeartbeats 8000000 in
set_option maxRecDepth 4000 in
theorem doPart_B (c : CfgT) (l : List Bs) (h2 : 3 ≤ l.length) (hl : ∀ s ∈ l, s.length ≤ 1000000) (hl2 : l.length ≤ 1000000) (hps : c.ps.length ≤ 4) :
    SpecB Tryz.prog 67 [.ptr 1000000 0, .sl 1 (l.map strR)] (cfgO c) (.bool (lpartT c l).2) (cfgO (lpartT c l).1) := by
  have hget := str_row (l := l) (k := 1) (by omega)
  have hget2 := str_row (l := l) (k := 2) (by omega)
  have hD : l.getD 1 [] = l[1]'(by omega) := by simp [List.getD_eq_getElem?_getD, List.getElem?_eq_getElem (show 1 < l.length by omega)]
  have hD2 : l.getD 2 [] = l[2]'(by omega) := by simp [List.getD_eq_getElem?_getD, List.getElem?_eq_getElem (show 2 < l.length by omega)]
  have hnu := number_spec (l[1]'(by omega)) (hl _ (List.getElem_mem _))
  have hp : lpT l = ⟨numT (l[1]'(by omega)), l[2]'(by omega)⟩ := by unfold lpT; rw [hD, hD2]
  have hst : lpartT c l = if decide ((l.length : Int) = 3) && !decide ((4 : Int) ≤ c.ps.length) && partT (lpT l) then ({ c with ps := c.ps ++ [lpT l] }, true) else (c, false) := rfl
  have hva : Spec Tryz.prog 46 [.agg [.int .i64 (numT (l[1]'(by omega))), .str (l[2]'(by omega))]] (.bool (partT (lpT l))) := by rw [hp]; exact valid_spec ⟨numT (l[1]'(by omega)), l[2]'(by omega)⟩
  obtain ⟨n, hn⟩ : ∃ n, numT (l[1]'(by omega)) = n := ⟨_, rfl⟩
  rw [hn] at hnu hva hp
  obtain ⟨b1, e1⟩ : ∃ b, decide ((l.length : Int) = 3) = b := ⟨_, rfl⟩
  obtain ⟨b2, e2⟩ : ∃ b, decide ((4 : Int) ≤ c.ps.length) = b := ⟨_, rfl⟩
  obtain ⟨b3, e3⟩ : ∃ b, partT (lpT l) = b := ⟨_, rfl⟩
  rw [e3] at hva
  rw [e1, e2, e3] at hst
  have hsn : (c.ps ++ [lpT l]).map parC = c.ps.map parC ++ [[.int .i64 n, .str (l[2]'(by omega))]] := by rw [List.map_append, hp]; rfl
  unfold cfgO
  cases b1 <;> cases b2 <;> cases b3
  all_goals
    simp only [Bool.and_false, Bool.false_and, Bool.and_true, Bool.and_self, Bool.false_eq_true, Bool.not_true, Bool.not_false, if_false, if_true] at hst
    rw [hst]
    simp only [hsn]
    refine specB_of tt_ok Tryz.func67 rfl (by decide) Tryz.ntmps67 (congrArg Array.toList Tryz.results67) (by simp) (by decide) rfl (by simp only [go_sem, Int.reduceEq, Int.reduceLT, Nat.reduceEqDiff, Nat.reduceAdd, Nat.reduceMul, Nat.reduceLT, Nat.reduceLeDiff, Int.reduceToNat]) (fun F hF => ?_)
    refine vwp_seq_k fun Na hNa => vreg tt_ok hF rfl ?_; simp only [go_sem, Int.reduceEq, Int.reduceLT, Nat.reduceEqDiff, Nat.reduceAdd, Nat.reduceMul, Nat.reduceLT, Nat.reduceLeDiff, Int.reduceToNat]
    refine hNa _ (VWp.keep [0,1] [1000000,1000011,1000002] ?_); simp only [go_sem, Int.reduceEq, Int.reduceLT, Nat.reduceEqDiff, Nat.reduceAdd, Nat.reduceMul, Nat.reduceLT, Nat.reduceLeDiff, Int.reduceToNat]
    refine vwp_seq_k fun Nb hNb => vregd tt_ok mixed hF rfl (by kernel_rfl) (by kernel_rfl) ?_; simp only [hget, hget2, List.length_map, go_sem, Int.reduceEq, Int.reduceLT, Nat.reduceEqDiff, Nat.reduceAdd, Nat.reduceMul, Nat.reduceLT, Nat.reduceLeDiff, Int.reduceToNat]
    refine ⟨by omega, ?_⟩
    refine .inl ⟨_, hnu, ?_⟩; try simp only [go_sem, Int.reduceEq, Int.reduceLT, Nat.reduceEqDiff, Nat.reduceAdd, Nat.reduceMul, Nat.reduceLT, Nat.reduceLeDiff, Int.reduceToNat]
    refine ⟨by omega, ?_⟩
    try simp only [hget2, go_sem, Int.reduceEq, Int.reduceLT, Nat.reduceEqDiff, Nat.reduceAdd, Nat.reduceMul, Nat.reduceLT, Nat.reduceLeDiff, Int.reduceToNat]
    refine hNb _ (VWp.keep [0,1,5] [5,1000000,1000011,1000002] ?_); simp only [go_sem, Int.reduceEq, Int.reduceLT, Nat.reduceEqDiff, Nat.reduceAdd, Nat.reduceMul, Nat.reduceLT, Nat.reduceLeDiff, Int.reduceToNat]
    refine vwp_seq_k fun Nc hNc => ?_
    refine vwp_seq_k fun Nd hNd => vreg tt_ok hF rfl ?_; simp only [List.length_map, e1, e2, go_sem, Int.reduceEq, Int.reduceLT, Nat.reduceEqDiff, Nat.reduceAdd, Nat.reduceMul, Nat.reduceLT, Nat.reduceLeDiff, Int.reduceToNat]
    try (refine .inl ⟨_, hva, ?_⟩; try simp only [go_sem, Int.reduceEq, Int.reduceLT, Nat.reduceEqDiff, Nat.reduceAdd, Nat.reduceMul, Nat.reduceLT, Nat.reduceLeDiff, Int.reduceToNat])
    refine hNd _ (VWp.keep [0,5,29] [5,1000000,1000011,1000002] ?_); simp only [go_sem, Int.reduceEq, Int.reduceLT, Nat.reduceEqDiff, Nat.reduceAdd, Nat.reduceMul, Nat.reduceLT, Nat.reduceLeDiff, Int.reduceToNat]
    first
      | (refine vif rfl ⟨fun ht => ?_, (fun hf => by first | exact absurd hf (by decide) | (rw [e1] at hf; exact absurd hf (by decide)) | (rw [e2] at hf; exact absurd hf (by decide)))⟩
         refine vwp_seq_k fun Ne hNe => vreg tt_ok hF rfl ?_; simp only [go_sem, Int.reduceEq, Int.reduceLT, Nat.reduceEqDiff, Nat.reduceAdd, Nat.reduceMul, Nat.reduceLT, Nat.reduceLeDiff, Int.reduceToNat]
         refine hNe _ (VWp.keep [4] [1000000,1000011,1000002] ?_); simp only [go_sem, Int.reduceEq, Int.reduceLT, Nat.reduceEqDiff, Nat.reduceAdd, Nat.reduceMul, Nat.reduceLT, Nat.reduceLeDiff, Int.reduceToNat]
         refine vwp_ret ?_
         simp only [go_sem, Int.reduceEq, Int.reduceLT, Nat.reduceEqDiff, Nat.reduceAdd, Nat.reduceMul, Nat.reduceLT, Nat.reduceLeDiff, Int.reduceToNat]
         first | done | exact LeV.refl _ | exact ⟨LeV.refl _, by first | rfl | simp⟩)
      | (refine vif rfl ⟨(fun ht => by first | exact absurd ht (by decide) | (rw [e1] at ht; exact absurd ht (by decide)) | (rw [e2] at ht; exact absurd ht (by decide))), fun hf => ?_⟩
         refine vwp_skip (hNc _ ?_)
         refine vwp_seq_k fun Nf hNf => vregd tt_ok mixed hF rfl (by kernel_rfl) (by kernel_rfl) ?_; simp only [go_sem, Int.reduceEq, Int.reduceLT, Nat.reduceEqDiff, Nat.reduceAdd, Nat.reduceMul, Nat.reduceLT, Nat.reduceLeDiff, Int.reduceToNat]
         refine ⟨by omega, ?_⟩
         refine hNf _ (VWp.keepR [] [1000000,1000011,1000002] tt_ok hF rfl fun Ng hNg => ?_); simp only [go_sem, Int.reduceEq, Int.reduceLT, Nat.reduceEqDiff, Nat.reduceAdd, Nat.reduceMul, Nat.reduceLT, Nat.reduceLeDiff, Int.reduceToNat]
         refine hNg _ (VWp.keep [4] [1000000,1000011,1000002] ?_); simp only [go_sem, Int.reduceEq, Int.reduceLT, Nat.reduceEqDiff, Nat.reduceAdd, Nat.reduceMul, Nat.reduceLT, Nat.reduceLeDiff, Int.reduceToNat]
         refine vwp_ret ?_
         simp only [go_sem, Int.reduceEq, Int.reduceLT, Nat.reduceEqDiff, Nat.reduceAdd, Nat.reduceMul, Nat.reduceLT, Nat.reduceLeDiff, Int.reduceToNat]
         first | done | exact LeV.refl _ | exact ⟨LeV.refl _, by first | rfl | simp⟩)
end Go.Proofs.YtedbbinlcdgkoaaGreatDoor

/- Layer 19: slices.Insert on the units, the search among them. -/
namespace Go.Proofs.YtedbbinlcdgkoaaGreatDoor
open Go.RowKit
-- FUSE
-- LESS
set_option linter.unusedVariables false
set_option linter.unusedSimpArgs false
def act0 : Act := { tmps := #[], defers := [] }
theorem two_arr {a b k E : Nat} {r r' : List (List V)} {o : Nat} {T : TypeId} {c : List V} (h : lko [(a, Ob.arr k E r), (b, Ob.arr k E r')] o = some (.box T c)) : False := by
  unfold lko at h
  split at h
  · cases h
  · unfold lko at h
    split at h
    · cases h
    · cases h
theorem Insert_B (rows : List (List V)) (u : List V) (i : Nat) (hi : i ≤ rows.length) (hM : rows.length ≤ 1000) :
    SpecB Tryz.prog 96 [.own 1000011 rows.length, .int .i64 (i : Int), .own 1000002 1] [(1000011, .arr 5 58 rows), (1000002, .arr 5 58 [u])]
      (.own 1000011 (rows.length + 1)) [(1000011, .arr 5 58 (rows.take i ++ u :: rows.drop i)), (1000002, .arr 5 58 [u])] := by
  have hlen : (rows.take i ++ u :: rows.drop i).length = rows.length + 1 := by simp; omega
  refine ⟨⟨_, Tryz.func96, rfl, by decide⟩, ⟨fun q hq => ?_, fun o T c h => ?_⟩, fun o h => ?_, fun M L Z β w vs hO hv => ?_⟩
  · simp only [V.refs, List.mem_singleton] at hq
    subst hq
    exact ⟨5, _, _, rfl, by rw [hlen]; exact Nat.le_refl _⟩
  · exact (two_arr h).elim
  · unfold lko at h ⊢
    split
    · simp
    · rename_i e
      rw [if_neg e] at h
      unfold lko at h ⊢
      split
      · simp
      · rename_i e2; rw [if_neg e2] at h; exact h
  · have ho1 : lko [(1000011, Ob.arr 5 58 rows), (1000002, Ob.arr 5 58 [u])] 1000011 = some (.arr 5 58 rows) := rfl
    have ho2 : lko [(1000011, Ob.arr 5 58 rows), (1000002, Ob.arr 5 58 [u])] 1000002 = some (.arr 5 58 [u]) := rfl
    obtain ⟨v1, vs1, rfl, ⟨_, hv1⟩, v2, vs2, rfl, hv2, v3, vs3, rfl, ⟨_, hv3⟩, hv4⟩ := hv
    have hv4 : vs3 = [] := hv4
    subst hv4
    have hv2 : v2 = .int .i64 i := hv2
    subst hv2
    have e1 : v1 = β.sv 1000011 := hv1 _ (by unfold sit svOf; simp only [ho1, if_true])
    have e3 : v3 = β.sv 1000002 := hv3 _ (by unfold sit svOf; simp only [ho2, List.length_cons, List.length_nil, if_true, Nat.zero_add])
    subst e1; subst e3
    obtain ⟨k1, c1, l1, xs, o1, one1, r1⟩ := hO.arr _ _ _ _ ho1
    obtain ⟨k2, c2, l2, ys, o2, one2, r2⟩ := hO.arr _ _ _ _ ho2
    obtain ⟨g, cap, rest, hs3, hcu, hcm, _, hg, hyl⟩ := own_hs o2 (by simp)
    have hgu : ∀ j ∈ own (β.sv 1000011), g ≠ j := fun j hj e => by
      subst e
      have := hO.inj 1000011 1000002 g (by unfold blk; simp only [ho1]; simpa [own] using hj) (by unfold blk; simp only [ho2, hs3]; rfl)
      omega
    rw [hs3]
    refine (insU_any w 0 (β.sv 1000011) rows.length i g 58 xs ys rest cap hcu hcm o1 hi (by omega) one1 hg (by simpa using hyl) one2 hgu (Nat.zero_le _)).mono ?_
    rintro e w' ⟨v', rfl, ho', hc', hw'⟩
    have hsim : Sim ⟨w, L, M, 0, lko [(1000011, Ob.arr 5 58 rows), (1000002, Ob.arr 5 58 [u])], β, Z, 0⟩ β ⟨fun _ => .any, lko [(1000011, Ob.arr 5 58 rows), (1000002, Ob.arr 5 58 [u])]⟩ act0 w :=
      ⟨hO, ⟨(fun i r hr => by simp [V.refs] at hr), fun o T c h => (two_arr h).elim⟩, fun i => trivial, Marks.none (Nat.zero_le _), rfl⟩
    have hrow : (rows.take i ++ u :: rows.drop i).flatten = rows.flatten.take (i * 5) ++ u ++ rows.flatten.drop (i * 5) := by
      rw [List.flatten_append, List.flatten_cons, flatten_takes i k1, flatten_drop i k1, List.append_assoc]
    have hru : RepL (sit ⟨w, L, M, 0, lko [(1000011, Ob.arr 5 58 rows), (1000002, Ob.arr 5 58 [u])], β, Z, 0⟩ β (lko [(1000011, Ob.arr 5 58 rows), (1000002, Ob.arr 5 58 [u])]) w) u ys := by
      have : [u].flatten = u := by simp
      rw [this] at r2; exact r2
    have hreg := hsim.regrow (o := 1000011) (rows' := rows.take i ++ u :: rows.drop i) (W' := w') (v' := v') (xs := xs.take (i * 5) ++ ys ++ xs.drop (i * 5)) ho1 rfl (by rw [hlen]; omega)
      (fun r hr => by
        rcases List.mem_append.1 hr with q | q
        · exact k1 r (List.mem_of_mem_take q)
        · rcases List.mem_cons.1 q with rfl | q
          · exact k2 r (by simp)
          · exact k1 r (List.mem_of_mem_drop q))
      (fun r hr => by
        rcases List.mem_append.1 hr with q | q
        · exact c1 r (List.mem_of_mem_take q)
        · rcases List.mem_cons.1 q with rfl | q
          · exact c2 r (by simp)
          · exact c1 r (List.mem_of_mem_drop q))
      hc' hw' (by rw [hlen]; exact ho')
      (fun x hx => by
        rcases List.mem_append.1 hx with q | q
        · rcases List.mem_append.1 q with q | q
          · exact one1 x (List.mem_of_mem_take q)
          · exact one2 x q
        · exact one1 x (List.mem_of_mem_drop q))
      (by rw [hrow]; exact ((r1.take _).append hru).append (r1.drop _))
    have hos : up (lko [(1000011, Ob.arr 5 58 rows), (1000002, Ob.arr 5 58 [u])]) 1000011 (some (.arr 5 58 (rows.take i ++ u :: rows.drop i))) = lko [(1000011, Ob.arr 5 58 (rows.take i ++ u :: rows.drop i)), (1000002, Ob.arr 5 58 [u])] := by
      funext o
      unfold up lko
      by_cases e : o = 1000011
      · rw [if_pos e, if_pos e]
      · rw [if_neg e, if_neg e, if_neg e]
    have hobj := hreg.objs
    simp only [hos] at hobj
    refine ⟨v', _, rfl, hobj, ?_, fun z hz => ?_⟩
    · rcases ho'.2 with ⟨h, h0⟩ | ⟨g2, cap2, cur2, h, _⟩
      · omega
      · exact ⟨_, _, h⟩
    · unfold sit svOf at hz
      have : lko [(1000011, Ob.arr 5 58 (rows.take i ++ u :: rows.drop i)), (1000002, Ob.arr 5 58 [u])] 1000011 = some (.arr 5 58 (rows.take i ++ u :: rows.drop i)) := rfl
      simp only [this, hlen, if_true, up_same, Option.some.injEq] at hz
      exact hz
end Go.Proofs.YtedbbinlcdgkoaaGreatDoor
