import Derived.WalkSpells
import Derived.Outline
import Derived.Shelf.RegionOpenPlain
import Derived.Lib.Overlaps
import Derived.Test.YtldkmclfhjcicaaGreatDoorProg
import Derived.Test.YtldkmclfhjcicaaGreatDoorCMem
import Derived.Test.YtldkmclfhjcicaaGreatDoorFr

/- slices.Clone at entries and at groups; clone of layer 27. -/
namespace Go.Proofs.YtldkmclfhjcicaaGreatDoor
open Go.RowKit
set_option linter.unusedVariables false
set_option linter.unusedSimpArgs false

theorem info_ent : (Tryz.prog.info? 45).map (fun i => (i.zero, i.size, i.bytes)) = some (some (.agg #[.string ⟨#[]⟩, .int .i64 0, .string ⟨#[]⟩, .int .i64 0]), 4, 48) := by kernel_rfl
theorem info_grp : (Tryz.prog.info? 54).map (fun i => (i.zero, i.size, i.bytes)) = some (some (.agg #[.string ⟨#[]⟩, .int .i64 0]), 2, 24) := by kernel_rfl

set_option maxHeartbeats 1000000 in
theorem CloneE_any (w : World) (v : Value) (es : List Ent) (hv : RdE w v es) (hM : es.length ≤ 1000000) : Calls Tryz.prog 78 #[v] w fun e w' =>
    ∃ u, e = .returned u ∧ w'.ownsRow w.heap.size 45 4 u es.length (cE es) ∧ Chg [] w w' := by
  have hr : RdK w 4 v es.length (cE es) := hv
  obtain ⟨a, cap, rfl⟩ := hr.shape
  have q := fun (w : World) (a : Option Addr) (n c n' c' : Nat) => Lib.run_eql_slice_nil (P := Tryz.prog) w 22 _ a n c n' c' Tryz.underlying22
  cases a with
  | none =>
    obtain ⟨a', c', h1, _, _, _, h0, _⟩ := hr
    injection h1 with h1 _ _
    have hz : es.length = 0 := h0 h1.symm
    have : es = [] := List.eq_nil_of_length_eq_zero hz
    subst this
    clear h0 h1 hv hz hM
    go_enter Tryz.func78, Tryz.ntmps78
    go_wp2_with (fail)
    go_ret
    exact ⟨_, rfl, World.ownsRow_nil _ _ _ _, Chg.refl _ _⟩
  | some p =>
    have HR := hid hr
    clear hv hr
    go_enter Tryz.func78, Tryz.ntmps78
    go_wp2_with (at_builtin; refine appendRK rfl _ _ 22 rfl w.heap.size 45 4 48 (by decide) _ Tryz.underlying22 info_ent rfl (by decide) (HR.out.keep1 (Chg.alloc [] w _)) (cE_one es) (own_madeK w 45 4) rfl rfl (by omega) (by simp) ?_; intro v' w' ho' hc')
    go_ret
    refine ⟨_, rfl, by simpa using ho', (Chg.alloc [] w _).then hc' (by simp [own, Value.ownBlock])⟩

set_option maxHeartbeats 1000000 in
theorem CloneG_any (w : World) (v : Value) (es : List Grp) (hv : RdG w v es) (hM : es.length ≤ 1000000) : Calls Tryz.prog 79 #[v] w fun e w' =>
    ∃ u, e = .returned u ∧ w'.ownsRow w.heap.size 54 2 u es.length (cG es) ∧ Chg [] w w' := by
  have hr : RdK w 2 v es.length (cG es) := hv
  obtain ⟨a, cap, rfl⟩ := hr.shape
  have q := fun (w : World) (a : Option Addr) (n c n' c' : Nat) => Lib.run_eql_slice_nil (P := Tryz.prog) w 23 _ a n c n' c' Tryz.underlying23
  cases a with
  | none =>
    obtain ⟨a', c', h1, _, _, _, h0, _⟩ := hr
    injection h1 with h1 _ _
    have hz : es.length = 0 := h0 h1.symm
    have : es = [] := List.eq_nil_of_length_eq_zero hz
    subst this
    clear h0 h1 hv hz hM
    go_enter Tryz.func79, Tryz.ntmps79
    go_wp2_with (fail)
    go_ret
    exact ⟨_, rfl, World.ownsRow_nil _ _ _ _, Chg.refl _ _⟩
  | some p =>
    have HR := hid hr
    clear hv hr
    go_enter Tryz.func79, Tryz.ntmps79
    go_wp2_with (at_builtin; refine appendRK rfl _ _ 23 rfl w.heap.size 54 2 24 (by decide) _ Tryz.underlying23 info_grp rfl (by decide) (HR.out.keep1 (Chg.alloc [] w _)) (cG_one es) (own_madeK w 54 2) rfl rfl (by omega) (by simp) ?_; intro v' w' ho' hc')
    go_ret
    refine ⟨_, rfl, by simpa using ho', (Chg.alloc [] w _).then hc' (by simp [own, Value.ownBlock])⟩

set_option maxHeartbeats 4000000 in
set_option maxRecDepth 100000 in
theorem clone_any (w : World) (ve vg : Value) (c : Cat) (hv : RdC w ve vg c) (hE : c.es.length ≤ 1000000) (hG : c.gs.length ≤ 1000000) : Calls Tryz.prog 56 #[.agg #[ve, vg]] w fun e w' =>
    ∃ ue ug, e = .returned (.agg #[ue, ug]) ∧ w'.ownsRow w.heap.size 45 4 ue c.es.length (cE c.es) ∧ w'.ownsRow w.heap.size 54 2 ug c.gs.length (cG c.gs) ∧ Chg [] w w' := by
  obtain ⟨hve, hvg⟩ := hv
  obtain ⟨ea, ec, rfl⟩ := hve.shape
  obtain ⟨ga, gc, rfl⟩ := hvg.shape
  have HVE := hid hve
  have HVG := hid hvg
  clear hve hvg
  obtain ⟨L, hL⟩ : ∃ L, c.es.length = L := ⟨_, rfl⟩
  obtain ⟨M, hM⟩ : ∃ M, c.gs.length = M := ⟨_, rfl⟩
  have cE' : ∀ W, Chg [] w W → Calls Tryz.prog 78 #[.slice ea L ec] W fun e w' => ∃ u, e = .returned u ∧ w'.ownsRow W.heap.size 45 4 u L (cE c.es) ∧ Chg [] W w' := fun W hW => by
    have h := CloneE_any W _ c.es (HVE.out.keep1 hW) hE
    rw [hL] at h; exact h
  have cG' : ∀ W, Chg [] w W → Calls Tryz.prog 79 #[.slice ga M gc] W fun e w' => ∃ u, e = .returned u ∧ w'.ownsRow W.heap.size 54 2 u M (cG c.gs) ∧ Chg [] W w' := fun W hW => by
    have h := CloneG_any W _ c.gs (HVG.out.keep1 hW) hG
    rw [hM] at h; exact h
  rw [hL, hM]
  rw [hL] at hE
  rw [hM] at hG
  clear hL hM HVE HVG
  go_enter Tryz.func56, Tryz.ntmps56
  go_wp2_with (fail)
  have hbx := al_old (o := .cells #[.slice none 0 0, .slice none 0 0] 25 (0, 0)) (al_new (w := w) (k := w.heap.size) (o := .cells #[.slice ea L ec, .slice ga M gc] 25 (0, 0)) rfl)
  have hres := hid (al_new (w := w.alloc (.cells #[.slice ea L ec, .slice ga M gc] 25 (0, 0))) (k := w.heap.size + 1) (o := .cells #[.slice none 0 0, .slice none 0 0] 25 (0, 0)) (by simp))
  have hww : Chg [] w ((w.alloc (.cells #[.slice ea L ec, .slice ga M gc] 25)).alloc (.cells #[.slice none 0 0, .slice none 0 0] 25)) := (Chg.alloc _ _ _).trans (Chg.alloc _ _ _)
  generalize (w.alloc (.cells #[.slice ea L ec, .slice ga M gc] 25)).alloc (.cells #[.slice none 0 0, .slice none 0 0] 25) = W at *
  obtain ⟨b0, b1⟩ := two_cells hbx
  clear hbx
  refine region_held (S := fun w' => Chg [w.heap.size + 1] W w') (by kernel_rfl) (n := 8) rfl (l := _) rfl ?_
  have hS0 : Chg [w.heap.size + 1] W W.drew := Chg.drew [w.heap.size + 1] W
  first | (refine held_skip 0 rfl (by kernel_rfl) (by rfl) (fun _ _ _ h => h) hS0 ?_; try simp only [Act.put, List.setIfInBounds_toArray, List.set_cons_zero, List.set_cons_succ]) | (refine held_take 0 (v := ?v1) rfl (by kernel_rfl) (by rfl) ?hv1 (fun _ _ _ h => h) hS0 ?rest1; case hv1 => (intro W' hW'; have q0 := hW'.cell b0 (by simp); have q1 := hW'.cell b1 (by simp); go_simp; try with_reducible rfl); try simp only [Act.put, List.setIfInBounds_toArray, List.set_cons_zero, List.set_cons_succ])
  first | (refine held_skip 1 rfl (by kernel_rfl) (by rfl) (fun _ _ _ h => h) hS0 ?_; try simp only [Act.put, List.setIfInBounds_toArray, List.set_cons_zero, List.set_cons_succ]) | (refine held_take 1 (v := ?v2) rfl (by kernel_rfl) (by rfl) ?hv2 (fun _ _ _ h => h) hS0 ?rest2; case hv2 => (intro W' hW'; have q0 := hW'.cell b0 (by simp); have q1 := hW'.cell b1 (by simp); go_simp; try with_reducible rfl); try simp only [Act.put, List.setIfInBounds_toArray, List.set_cons_zero, List.set_cons_succ])
  first | (refine held_skip 3 rfl (by kernel_rfl) (by rfl) (fun _ _ _ h => h) hS0 ?_; try simp only [Act.put, List.setIfInBounds_toArray, List.set_cons_zero, List.set_cons_succ]) | (refine held_take 3 (v := ?v3) rfl (by kernel_rfl) (by rfl) ?hv3 (fun _ _ _ h => h) hS0 ?rest3; case hv3 => (intro W' hW'; have q0 := hW'.cell b0 (by simp); have q1 := hW'.cell b1 (by simp); go_simp; try with_reducible rfl); try simp only [Act.put, List.setIfInBounds_toArray, List.set_cons_zero, List.set_cons_succ])
  first | (refine held_skip 4 rfl (by kernel_rfl) (by rfl) (fun _ _ _ h => h) hS0 ?_; try simp only [Act.put, List.setIfInBounds_toArray, List.set_cons_zero, List.set_cons_succ]) | (refine held_take 4 (v := ?v4) rfl (by kernel_rfl) (by rfl) ?hv4 (fun _ _ _ h => h) hS0 ?rest4; case hv4 => (intro W' hW'; have q0 := hW'.cell b0 (by simp); have q1 := hW'.cell b1 (by simp); go_simp; try with_reducible rfl); try simp only [Act.put, List.setIfInBounds_toArray, List.set_cons_zero, List.set_cons_succ])
  refine held_one 2 rfl (by kernel_rfl) (by rfl) (fun K hK => ?_)
  go_simp
  refine (cE' _ (hww.trans (Chg.drew [] W))).mono ?_
  rintro e w1 ⟨ue, rfl, hO1, hv1⟩
  obtain ⟨ua, uc, rfl⟩ := (RdK.of_own hO1).shape
  have hS1 := hS0.trans (hv1.weaken (by simp))
  have hT1 := (Chg.drew [] W).trans hv1
  refine hK.out _ _ hS1 ?_
  clear hK K
  refine held_one 5 rfl (by kernel_rfl) (by rfl) (fun K hK => ?_)
  go_simp
  refine (cG' _ (hww.trans hT1)).mono ?_
  rintro e w2 ⟨ug, rfl, hO2, hv2⟩
  obtain ⟨va, vc, rfl⟩ := (RdK.of_own hO2).shape
  have hS2 := hS1.trans (hv2.weaken (by simp))
  have hT2 := hT1.trans hv2
  refine hK.out _ _ hS2 ?_
  clear hK K
  first | (refine held_skip 6 rfl (by kernel_rfl) (by rfl) (fun _ _ _ h => h) hS2 ?_; try simp only [Act.put, List.setIfInBounds_toArray, List.set_cons_zero, List.set_cons_succ]) | (refine held_take 6 (v := ?v5) rfl (by kernel_rfl) (by rfl) ?hv5 (fun _ _ _ h => h) hS2 ?rest5; case hv5 => (intro W' hW'; have q0 := hW'.cell b0 (by simp); have q1 := hW'.cell b1 (by simp); go_simp; try with_reducible rfl); try simp only [Act.put, List.setIfInBounds_toArray, List.set_cons_zero, List.set_cons_succ])
  refine held_one 7 rfl (by kernel_rfl) (by rfl) (fun K hK => ?_)
  obtain ⟨r0, r1, f0, f1, HR2, HC2⟩ := store2 (.slice ua L uc) (.slice va M vc) (hT2.heap hres.out (by simp))
  go_simp
  have hS3 := hS2.trans (HC2.out.weaken (by simp))
  refine hK.out _ _ hS3 ?_
  clear hK K
  refine wpAnyH_done (by kernel_rfl) ?_ _
  rename_i QQ KK hKK
  refine hKK _ _ ?_
  clear hKK KK
  subst QQ
  go_wp2_with (fail)
  have hWs : w.heap.size + 1 < W.heap.size := by
    obtain ⟨hlt, _⟩ := Array.getElem?_eq_some_iff.1 hres.out
    exact hlt
  have hWd : W.drew.heap.size = W.heap.size := rfl
  have hg1 : W.heap.size ≤ w1.heap.size := hv1.size
  obtain ⟨q0, q1⟩ := two_cells HR2.out
  refine bodyPost_ret (v := .agg #[.slice ua L uc, .slice va M vc]) (by simp [results, Tryz.f56, go_sem, q0, q1]) rfl ?_
  refine ⟨_, _, rfl, ?_, ?_, ?_⟩
  · exact ownK_base (ownK_keep (ownK_keep1 hO1 hv2) HC2.out (fun j hj => by have := ownK_ge hO1 j hj; simp only [List.mem_singleton]; omega)) (by omega)
  · exact ownK_base (ownK_keep hO2 HC2.out (fun j hj => by have := ownK_ge hO2 j hj; simp only [List.mem_singleton]; omega)) (by omega)
  · exact ((hww.trans hT2).then HC2.out (by simp))

end Go.Proofs.YtldkmclfhjcicaaGreatDoor

namespace Go.Proofs.YtldkmclfhjcicaaGreatDoor
open Go.RowKit
set_option linter.unusedVariables false
set_option linter.unusedSimpArgs false

theorem appendRoomK {P : Program} (w : World) (t elem ty : TypeId) (k : Nat) (g sLen sCap : Nat) (a : Addr) (m c : Nat) (cur : Array Value) (te : TypeId) (cs : List Value)
    (ht : P.underlying t = some (.slice elem)) (hs : (P.info? elem).map (·.size) = some k)
    (hg : w.heap[g]? = some (.cells cur te (0, 0))) (hn : cs.length = m * k)
    (hsrc : ∀ j v, cs[j]? = some v → w.cell? (a.add j) = some v) (hroom : sLen + m ≤ sCap) (hfit : sLen * k + cs.length ≤ cur.size) (h1 : ∀ v ∈ cs, v.oneCell' = true) :
    (Builtin.append_ #[t, t] ty #[.slice (some ⟨g, 0, none⟩) sLen sCap, .slice (some a) m c]).run P w = .ok (.slice (some ⟨g, 0, none⟩) (sLen + m) sCap) (w.setRow g (spl cur.toList (sLen * k) cs).toArray) := by
  have hst := run_storeCells_at P g (sLen * k) te cs 0 cur w hg (by simpa using hfit) h1
  cases hq : P.info? elem with
  | none => simp [hq] at hs
  | some i =>
    have hi : i.size = k := by simpa [hq] using hs
    have hfc := run_firstCells_some (P := P) w k m a m c cs hn hsrc
    simp [Builtin.append_, run_underlying ht, sizeOf, typeInfo, hq, hi, Builtin.lenOf, hroom, hfc, Addr.add_lit, hst, spl]

theorem zero_ent : ∀ w, (zeroValue 45).run Tryz.prog w = .ok (.agg #[.string ⟨#[]⟩, .int .i64 0, .string ⟨#[]⟩, .int .i64 0]) w := fun w => by
  have h : (Tryz.prog.info? 45).bind (·.zero) = some (.agg #[.string ⟨#[]⟩, .int .i64 0, .string ⟨#[]⟩, .int .i64 0]) := by kernel_rfl
  cases hq : Tryz.prog.info? 45 with
  | none => simp [hq] at h
  | some i =>
    have h2 : i.zero = some (.agg #[.string ⟨#[]⟩, .int .i64 0, .string ⟨#[]⟩, .int .i64 0]) := by simpa [hq] using h
    simp [zeroValue, typeInfo, hq, h2]

set_option maxHeartbeats 4000000 in
set_option maxRecDepth 100000 in
theorem delE_any (w : World) (B : Nat) (v : Value) (n i j : Nat) (xs : List Value) (hown : w.ownsRow B 45 4 v n xs) (hi : i < n) (hj : j = i + 1) (hM : n ≤ 1000000) (h1 : ∀ u ∈ xs, u.oneCell' = true) :
    Calls Tryz.prog 60 #[v, .int .i64 i, .int .i64 j] w fun e w' =>
      ∃ u, e = .returned u ∧ w'.ownsRow B 45 4 u (n - 1) (xs.take (i * 4) ++ xs.drop (j * 4)) ∧ Chg (own v) w w' := by
  obtain ⟨g, cap, cur, rest, rfl, hB, hlt, hg, hnc, hcm, hcur, hxl, hrl⟩ := own_row hown (by omega)
  have hcm' : cap ≤ 9223372036854775807 := hcm
  have hcsz : cur.size = cap * 4 := by rw [← Array.length_toList, hcur, List.length_append, hxl, hrl]; omega
  have hdl : (xs.drop (j * 4)).length = (n - j) * 4 := by rw [List.length_drop, hxl]; omega
  obtain ⟨A, hA, hsrc⟩ : ∃ A : Addr, (if cap = j then (some ⟨g, 0, none⟩ : Option Addr) else some ⟨g, j * 4, none⟩) = some A ∧ Hid (∀ t u, (xs.drop (j * 4))[t]? = some u → w.drew.cell? (A.add t) = some u) := by
    by_cases h : cap = j
    · refine ⟨⟨g, 0, none⟩, by simp [h], fun t u hu => ?_⟩
      have h0 : (xs.drop (j * 4)).length = 0 := by rw [hdl]; omega
      rw [List.length_eq_zero_iff.1 h0] at hu
      exact absurd hu (by simp)
    · refine ⟨⟨g, j * 4, none⟩, by simp [h], fun t u hu => ?_⟩
      rw [Addr.add_lit]
      have : w.cell? ⟨g, j * 4 + t, none⟩ = cur[j * 4 + t]? := cell_of_row w g _ _ _ _ hg
      refine Eq.trans this ?_
      rw [← Array.getElem?_toList, hcur]
      rw [List.getElem?_drop] at hu
      rw [List.getElem?_append_left (by have := (List.getElem?_eq_some_iff.1 hu).1; omega)]
      exact hu
  have hap : ∀ ty, (Builtin.append_ #[22, 22] ty #[.slice (some ⟨g, 0, none⟩) i cap, .slice (some A) (n - j) (cap - j)]).run Tryz.prog w.drew = .ok (.slice (some ⟨g, 0, none⟩) (i + (n - j)) cap) (w.drew.setRow g (spl cur.toList (i * 4) (xs.drop (j * 4))).toArray) := fun ty =>
    appendRoomK w.drew _ 45 ty 4 g i cap A _ _ cur 45 _ Tryz.underlying22 (by kernel_rfl) hg hdl hsrc.out (by omega) (by rw [hdl, hcsz]; omega) (fun u hu => h1 u (List.mem_of_mem_drop hu))
  obtain ⟨row1, hrow1⟩ : ∃ r, spl cur.toList (i * 4) (xs.drop (j * 4)) = r := ⟨_, rfl⟩
  have hr1 : row1.length = cap * 4 := by rw [← hrow1, spl_len _ _ _ (by rw [hdl, Array.length_toList, hcsz]; omega), Array.length_toList, hcsz]
  rw [hrow1] at hap
  obtain ⟨W1, hW1⟩ : ∃ W1, w.drew.setRow g row1.toArray = W1 := ⟨_, rfl⟩
  rw [hW1] at hap
  have hg1 : W1.heap[g]? = some (.cells row1.toArray 45 (0, 0)) := by rw [← hW1]; exact setRow_heap w.drew g _ _ _ _ hg
  have hfour : (Value.agg #[.string ⟨#[]⟩, .int .i64 0, .string ⟨#[]⟩, .int .i64 0]).cells.size = 4 := by decide
  have hfit : (n - 1) * 4 + 1 * (Value.agg #[.string ⟨#[]⟩, .int .i64 0, .string ⟨#[]⟩, .int .i64 0]).cells.size ≤ row1.toArray.size := by rw [hfour, List.size_toArray, hr1]; omega
  obtain ⟨zs, hzl, hcl⟩ := clearK (P := Tryz.prog) W1 22 45 (.agg #[.string ⟨#[]⟩, .int .i64 0, .string ⟨#[]⟩, .int .i64 0]) Tryz.underlying22 zero_ent (by decide) (by decide) g ((n - 1) * 4) 1 (cap - (n - 1)) (by omega) row1.toArray 45 hg1 hfit
  have HAP := hid hap
  clear hap
  have HCL := hid hcl
  have HG1 := hid hg1
  have HW1 := hid hW1
  have HR1 := hid hrow1
  have mixed : Tryz.prog.follows .mixedOrders = true := by kernel_rfl
  have hij : i < j := by omega
  have hjn : j ≤ n := by omega
  have hic : i ≤ cap := by omega
  have hjc : j ≤ cap := by omega
  have HJ := hid hj
  clear hj
  clear hcl hg1 hW1 hrow1 hfit hfour hr1 hcsz
  go_enter Tryz.func60, Tryz.ntmps60
  go_wp2_with fail
  go_region_law_o (refine step_append_run rfl (.tmp 22) (.tmp 25) 22 22 rfl (.slice (some ⟨g, 0, none⟩) i cap) (.slice (some A) (n - j) (cap - j)) (by simp [Act.eval, Act.put]) (by simp [Act.eval, Act.put, hA]) (HAP.out _) ?_)
  rw [show i + (n - j) = n - 1 from by have := HJ.out; omega]
  have hcl := HCL.out
  have hnb : ¬ (cap = n - 1) := by omega
  have hn1 : n - (n - 1) = 1 := by omega
  go_wp2_with (simp only [hn1, hcl])
  go_ret
  have hj := HJ.out
  have hz4 : zs.length = 4 := by rw [hzl]; decide
  have hd := delete_cells xs rest n i 4 hi hxl zs hz4
  refine ⟨_, rfl, ?_, ?_⟩
  · refine own_of_row (rest := zs ++ rest) hB (setRow_heap W1 g _ _ _ _ HG1.out) (by omega) hcm ?_ ?_ ?_
    · rw [← HR1.out, hcur, hj]; simpa using hd
    · rw [List.length_append, List.length_take, hxl, hdl, hj]; omega
    · rw [List.length_append, hz4, hrl]; omega
  · rw [← HW1.out]
    exact ((Chg.drew _ w).trans (chg_setRow [g] w.drew g _ (.inl (by simp)))).trans (chg_setRow [g] _ g _ (.inl (by simp)))

end Go.Proofs.YtldkmclfhjcicaaGreatDoor

namespace Go.Proofs.YtldkmclfhjcicaaGreatDoor
open Go.RowKit
set_option linter.unusedVariables false
set_option linter.unusedSimpArgs false

theorem appendZerosK {P : Program} (w : World) (t tn ty e : TypeId) (k bytes : Nat) (z : Value) (kn kq : IntKind) (ht : P.underlying t = some (.slice e)) (htn : P.underlying tn = some (.int kn))
    (hi : (P.info? e).map (fun i => (i.zero, i.size, i.bytes)) = some (some z, k, bytes)) (hk : 0 < k) (hby : bytes ≤ 1000)
    (b : Addr) (sLen sCap n : Nat) (olds : List Value) (hlo : olds.length = sLen * k) (holds : ∀ j v, olds[j]? = some v → w.cell? (b.add j) = some v) (h0 : 0 < n) (hg : sCap < sLen + n) (hM : sLen + n ≤ 1000001) :
    (Builtin.append_ #[t, tn] ty #[.slice (some b) sLen sCap, .int kq n]).run P w = .ok (.slice (some ⟨w.heap.size, 0, none⟩) (sLen + n) (grownCap w (sLen + n) sCap e))
      (w.drew.alloc (.cells (olds.toArray ++ Builtin.zeroCells z.cells n ++ Builtin.zeroCells z.cells (grownCap w (sLen + n) sCap e - (sLen + n))) e)) := by
  cases hq : P.info? e with
  | none => simp [hq] at hi
  | some i =>
    obtain ⟨hz, hs, hb⟩ : i.zero = some z ∧ i.size = k ∧ i.bytes = bytes := by simpa [hq] using hi
    have hmul : ∀ a : Nat, a ≤ 1000001 → a * bytes ≤ 1000001000 := fun a ha => by
      calc a * bytes ≤ 1000001 * 1000 := Nat.mul_le_mul ha hby
        _ = 1000001000 := by rfl
    have hfit := growslice_fits (bytes := bytes) hg (by have := hmul _ hM; omega)
    have hn : ¬ (sLen + n ≤ sCap) := by omega
    have hw : IntKind.i64.wrap (n : Int) = n := by rw [IntKind.wrap_i64]; omega
    have h63' : ¬ (9223372036854775807 < ((sLen : Int) + (n : Int))) := by omega
    have h48' : ¬ (281474976710656 < Builtin.nextslicecap (sLen + n) sCap * bytes) := by omega
    have h48i : ¬ (281474976710656 < (n : Int) * (bytes : Int)) := by
      rw [← Int.natCast_mul]
      have := hmul n (by omega)
      omega
    have hneg : ¬ ((n : Int) < 0) := by omega
    have hns : ¬ (n * k = 0) := Nat.mul_ne_zero (by omega) (by omega)
    have hn0 : n ≠ 0 := by omega
    have hk0 : k ≠ 0 := by omega
    have hfo := run_firstCells_some (P := P) w.drew k sLen b sLen sCap olds hlo (by simpa using holds)
    simp [Builtin.append_, run_underlying ht, run_underlying htn, sizeOf, typeInfo, zeroValue, hq, hz, hs, hb, asInt, asIntOf, hw, hn, hn0, hk0, hneg, hns, h63', h48', h48i, Question.forced, hfo, newRow, grownCap]

theorem sizeOf_E : ∀ w, (Go.sizeOf 45).run Tryz.prog w = .ok 4 w := fun w => by
  have h : (Tryz.prog.info? 45).map (·.size) = some 4 := by kernel_rfl
  cases hq : Tryz.prog.info? 45 with
  | none => simp [hq] at h
  | some i =>
    have h2 : i.size = 4 := by simpa [hq] using h
    simp [Go.sizeOf, typeInfo, hq, h2]
theorem sizeOf_G : ∀ w, (Go.sizeOf 54).run Tryz.prog w = .ok 2 w := fun w => by
  have h : (Tryz.prog.info? 54).map (·.size) = some 2 := by kernel_rfl
  cases hq : Tryz.prog.info? 54 with
  | none => simp [hq] at h
  | some i =>
    have h2 : i.size = 2 := by simpa [hq] using h
    simp [Go.sizeOf, typeInfo, hq, h2]

set_option maxHeartbeats 4000000 in
set_option maxRecDepth 100000 in
theorem insE_any (w : World) (B : Nat) (v : Value) (n i gu : Nat) (tu : TypeId) (xs news : List Value) (hown : w.ownsRow B 45 4 v n xs) (hi : i ≤ n) (hM : n ≤ 1000000) (h1 : ∀ u ∈ xs, u.oneCell' = true)
    (hU : w.heap[gu]? = some (.cells news.toArray tu (0, 0))) (hul : news.length = 4) (h1u : ∀ u ∈ news, u.oneCell' = true) (hgu : ∀ j ∈ own v, gu ≠ j) (hBw : B ≤ w.heap.size) :
    Calls Tryz.prog 58 #[v, .int .i64 i, .slice (some ⟨gu, 0, none⟩) 1 1] w fun e w' =>
      ∃ u, e = .returned u ∧ w'.ownsRow B 45 4 u (n + 1) (xs.take (i * 4) ++ news ++ xs.drop (i * 4)) ∧ Chg (own v) w w' := by
  have mixed : Tryz.prog.follows .mixedOrders = true := by kernel_rfl
  have hxl := hown.1
  have hucell : ∀ j u, news[j]? = some u → w.cell? ⟨gu, j, none⟩ = some u := fun j u hj => by
    rw [cell_of_row w gu j _ _ _ hU]; simpa using hj
  rcases Nat.eq_or_lt_of_le hi with rfl | hlt
  · -- at the end
    have hv : RdK w 4 (.slice (some ⟨gu, 0, none⟩) 1 1) 1 news := ⟨_, _, rfl, by decide, by decide, by simpa using hul, (by simp), (fun x hx => by cases hx; exact ⟨rfl, fun j u hj => by simpa using hucell j u hj⟩)⟩
    obtain ⟨va, vc, rfl⟩ := (RdK.of_own hown).shape
    have hnil : ∀ a c, Value.slice va i vc = .slice a 0 c → i = 0 := by intro a c h; cases h; rfl
    have HO := hid hown
    have HV := hid hv
    have hvl : i ≤ vc := by
      rcases hown.2 with ⟨h, h0⟩ | ⟨g, cap, cur, h, _, _, hh, _⟩
      · omega
      · cases h; exact hh
    clear hown hU hucell hv
    go_enter Tryz.func58, Tryz.ntmps58
    go_wp2_with (at_builtin; refine appendRK rfl _ _ 22 rfl B 45 4 48 (by decide) _ Tryz.underlying22 info_ent rfl (by decide) HV.out h1u HO.out rfl rfl (by omega) hBw ?_; rintro v' w' ho' hc')
    all_goals
      go_ret
      refine ⟨_, rfl, ?_, by first | exact hc' | (cases va <;> exact hc')⟩
      have e1 : xs.take (i * 4) = xs := List.take_of_length_le (by omega)
      have e2 : xs.drop (i * 4) = [] := List.drop_of_length_le (by omega)
      rw [e1, e2, List.append_nil]
      exact ho'
  · obtain ⟨g, cap, cur, rest, rfl, hB, hltg, hg, hnc, hcm, hcur, _, hrl⟩ := own_row hown (by omega)
    have hcm' : cap ≤ 9223372036854775807 := hcm
    have hcsz : cur.size = cap * 4 := by rw [← Array.length_toList, hcur, List.length_append, hxl, hrl]; omega
    have hgg : gu ≠ g := hgu g (by simp [own, Value.ownBlock])
    have hdl : (xs.drop (i * 4)).length = (n - i) * 4 := by rw [List.length_drop, hxl]; omega
    have htl : (xs.take (i * 4)).length = i * 4 := by rw [List.length_take, hxl]; omega
    have hxcell : ∀ j u, xs[j]? = some u → w.cell? ⟨g, j, none⟩ = some u := fun j u hj => by
      rw [cell_of_row w g j _ _ _ hg, ← Array.getElem?_toList, hcur, List.getElem?_append_left (List.getElem?_eq_some_iff.1 hj).1]; exact hj
    by_cases hroom : n + 1 ≤ cap
    · -- into the room
      have hov : ∀ lb cb, (callFunc 82 #[.slice (some ⟨gu, 0, none⟩) 1 1, .slice (some ⟨g, (i + 1) * 4, none⟩) lb cb]).run Tryz.prog w = .ok (.value (.bool false)) w := fun lb cb => by
        rw [run_callFunc_extern Tryz.func82 (by kernel_rfl) (by kernel_rfl) (by kernel_rfl) (e := Extern.SlicesOverlaps.overlaps #[22, 22] #[4]) (by kernel_rfl),
          Lib.run_overlaps_apart w 22 4 45 Tryz.underlying22 4 sizeOf_E ⟨gu, 0, none⟩ ⟨g, (i + 1) * 4, none⟩ 1 1 lb cb hgg tu 45 4 cur.size (by simp [World.shape?, hU, hul]) (by simp [World.shape?, hg]) (by omega)
            (by simp [World.frozen?, hU]) (by simp [World.frozen?, hU])]
        rfl
      have hcp1 : ∀ ty, (Builtin.copy_ #[22, 22] ty #[.slice (some ⟨g, (i + 1) * 4, none⟩) (n + 1 - (i + 1)) (cap - (i + 1)), .slice (some ⟨g, i * 4, none⟩) (n + 1 - i) (cap - i)]).run Tryz.prog w.drew = .ok (goInt (Nat.min (n + 1 - i) (n + 1 - (i + 1)))) (w.drew.setRow g (spl cur.toList ((i + 1) * 4) (xs.drop (i * 4))).toArray) := fun ty =>
        copyK w.drew _ _ ty 45 4 g ((i + 1) * 4) _ _ ⟨g, i * 4, none⟩ _ _ cur 45 _ Tryz.underlying22 (by kernel_rfl) hg (by rw [hdl, show Nat.min (n + 1 - i) (n + 1 - (i + 1)) = n - i from by simp only [Nat.min_def]; split <;> omega])
          (fun j u hj => by rw [Addr.add_lit]; rw [List.getElem?_drop] at hj; exact hxcell _ _ hj) (by rw [hdl, hcsz]; omega) (fun u hu => h1 u (List.mem_of_mem_drop hu))
      obtain ⟨row1, hrow1⟩ : ∃ r, spl cur.toList ((i + 1) * 4) (xs.drop (i * 4)) = r := ⟨_, rfl⟩
      have hr1 : row1.length = cap * 4 := by rw [← hrow1, spl_len _ _ _ (by rw [hdl, Array.length_toList, hcsz]; omega), Array.length_toList, hcsz]
      rw [hrow1] at hcp1
      obtain ⟨W1, hW1⟩ : ∃ W1, w.drew.setRow g row1.toArray = W1 := ⟨_, rfl⟩
      rw [hW1] at hcp1
      have hg1 : W1.heap[g]? = some (.cells row1.toArray 45 (0, 0)) := by rw [← hW1]; exact setRow_heap w.drew g _ _ _ _ hg
      have hU1 : W1.heap[gu]? = some (.cells news.toArray tu (0, 0)) := by rw [← hW1, setRow_other _ _ _ _ hgg]; exact hU
      have hcp2 : ∀ ty, (Builtin.copy_ #[22, 22] ty #[.slice (some ⟨g, i * 4, none⟩) (n + 1 - i) (cap - i), .slice (some ⟨gu, 0, none⟩) 1 1]).run Tryz.prog W1 = .ok (goInt (Nat.min 1 (n + 1 - i))) (W1.setRow g (spl row1.toArray.toList (i * 4) news).toArray) := fun ty =>
        copyK W1 _ _ ty 45 4 g (i * 4) _ _ ⟨gu, 0, none⟩ _ _ row1.toArray 45 _ Tryz.underlying22 (by kernel_rfl) hg1 (by rw [hul, show Nat.min 1 (n + 1 - i) = 1 from by simp only [Nat.min_def]; split <;> omega])
          (fun j u hj => by rw [Addr.add_lit, cell_of_row W1 gu _ _ _ _ hU1]; simpa using hj) (by rw [hul, List.size_toArray, hr1]; omega) h1u
      have HCP1 := hid hcp1
      have HCP2 := hid hcp2
      have HOV := hid hov
      have HG1 := hid hg1
      have HW1 := hid hW1
      have HR1 := hid hrow1
      have hic : i ≤ cap := by omega
      have hi1c : i + 1 ≤ cap := by omega
      have hn1 : i + 1 ≤ n + 1 := by omega
      have hb1 : ¬ (cap = i) := by omega
      have hw1 : IntKind.i64.wrap ((i : Int) + 1) = (i : Int) + 1 := by rw [IntKind.wrap_i64]; omega
      have hp1 : (0 : Int) ≤ (i : Int) + 1 := by omega
      have htn : ((i : Int) + 1).toNat = i + 1 := by omega
      have hb3 : (i : Int) + 1 ≤ (n : Int) + 1 := by omega
      have hb5 : (i : Int) ≤ (n : Int) + 1 := by omega
      have hb2 : ¬ (cap = i + 1) := by omega
      have hz2 : ¬ ((i : Int) = (n : Int)) := by omega
      clear hcp1 hcp2 hov hg1 hW1 hrow1 hr1 hcsz hU hU1 hucell hxcell hg
      go_enter Tryz.func58, Tryz.ntmps58
      go_wp2_with fail
      go_wp2_with (simp only [HOV.out])
      go_region_law_o (refine step_copy_run rfl (.tmp 73) (.tmp 76) 22 22 rfl (.slice (some ⟨g, (i + 1) * 4, none⟩) (n + 1 - (i + 1)) (cap - (i + 1))) (.slice (some ⟨g, i * 4, none⟩) (n + 1 - i) (cap - i)) (by simp [Act.eval, Act.put]) (by simp [Act.eval, Act.put]) (HCP1.out _) ?_)
      go_wp2_with (simp only [HCP2.out])
      go_ret
      have hd := insert_cells xs rest n i 4 hlt hxl (by rw [hrl]; omega) news hul
      refine ⟨_, rfl, ?_, ?_⟩
      · refine own_of_row (rest := rest.drop 4) hB (setRow_heap W1 g _ _ _ _ HG1.out) hroom hcm ?_ ?_ ?_
        · rw [← HR1.out, hcur]; simpa using hd
        · rw [List.length_append, List.length_append, htl, hdl, hul]; omega
        · rw [List.length_drop, hrl]; omega
      · rw [← HW1.out]
        exact ((Chg.drew _ w).trans (chg_setRow [g] w.drew g _ (.inl (by simp)))).trans (chg_setRow [g] _ g _ (.inl (by simp)))
    · -- into a new row
      have hnc' : n = cap := by omega
      subst hnc'
      obtain ⟨m, hm⟩ : ∃ m, n + 1 - i = m := ⟨_, rfl⟩
      have hap := fun ty => appendZerosK (P := Tryz.prog) w 22 3 ty 45 4 48 _ .i64 .i64 Tryz.underlying22 Tryz.underlying3 info_ent (by decide) (by decide) ⟨g, 0, none⟩ i n m (xs.take (i * 4)) htl
        (fun j u hj => by rw [Addr.add_lit, Nat.zero_add]; exact hxcell j u (List.getElem?_eq_some_iff.2 (by obtain ⟨a, b⟩ := List.getElem?_eq_some_iff.1 hj; exact ⟨by rw [List.length_take] at a; omega, by rw [List.getElem_take] at b; exact b⟩))) (by omega) (by omega) (by omega)
      have him : i + m = n + 1 := by omega
      rw [him] at hap
      have hge := grownCap_ge w (n + 1) n 45
      have hgm : grownCap w (n + 1) n 45 ≤ maxLen := grownCap_le_maxLen w (n + 1) n 45 (by simp only [maxLen]; omega)
      generalize grownCap w (n + 1) n 45 = gc at hap hge hgm
      obtain ⟨Z1, hZ1⟩ : ∃ Z1, (Builtin.zeroCells (Value.agg #[.string ⟨#[]⟩, .int .i64 0, .string ⟨#[]⟩, .int .i64 0]).cells m).toList = Z1 := ⟨_, rfl⟩
      obtain ⟨Z2, hZ2⟩ : ∃ Z2, (Builtin.zeroCells (Value.agg #[.string ⟨#[]⟩, .int .i64 0, .string ⟨#[]⟩, .int .i64 0]).cells (gc - (n + 1))).toList = Z2 := ⟨_, rfl⟩
      have hz1 : Z1.length = (n + 1 - i) * 4 := by rw [← hZ1, zeroCells_len, hm]; rfl
      have hz2 : Z2.length = (gc - (n + 1)) * 4 := by rw [← hZ2, zeroCells_len]; rfl
      obtain ⟨R0, hR0⟩ : ∃ R0, (xs.take (i * 4)).toArray ++ Builtin.zeroCells (Value.agg #[.string ⟨#[]⟩, .int .i64 0, .string ⟨#[]⟩, .int .i64 0]).cells m ++ Builtin.zeroCells (Value.agg #[.string ⟨#[]⟩, .int .i64 0, .string ⟨#[]⟩, .int .i64 0]).cells (gc - (n + 1)) = R0 := ⟨_, rfl⟩
      have hR0l : R0.toList = xs.take (i * 4) ++ Z1 ++ Z2 := by rw [← hR0, Array.toList_append, Array.toList_append, hZ1, hZ2]
      rw [hR0] at hap
      have hR0s : R0.size = gc * 4 := by rw [← Array.length_toList, hR0l, List.length_append, List.length_append, htl, hz1, hz2]; omega
      clear hR0 hZ1 hZ2
      obtain ⟨g', hg'⟩ : ∃ g', w.heap.size = g' := ⟨_, rfl⟩
      rw [hg'] at hap
      obtain ⟨W1, hW1⟩ : ∃ W1, w.drew.alloc (.cells R0 45) = W1 := ⟨_, rfl⟩
      rw [hW1] at hap
      have hg1 : W1.heap[g']? = some (.cells R0 45 (0, 0)) := by rw [← hW1, ← hg']; exact heap_alloc_new w.drew _
      have hgug : gu < w.heap.size := lt_of_block hU
      have hU1 : W1.heap[gu]? = some (.cells news.toArray tu (0, 0)) := by rw [← hW1]; exact (heap_alloc_old w.drew _ hgug).trans hU
      have hgo1 : W1.heap[g]? = some (.cells cur 45 (0, 0)) := by rw [← hW1]; exact (heap_alloc_old w.drew _ hltg).trans hg
      have hcp1 : ∀ ty, (Builtin.copy_ #[22, 22] ty #[.slice (some ⟨g', i * 4, none⟩) (n + 1 - i) (gc - i), .slice (some ⟨gu, 0, none⟩) 1 1]).run Tryz.prog W1 = .ok (goInt (Nat.min 1 (n + 1 - i))) (W1.setRow g' (spl R0.toList (i * 4) news).toArray) := fun ty =>
        copyK W1 _ _ ty 45 4 g' (i * 4) _ _ ⟨gu, 0, none⟩ _ _ R0 45 _ Tryz.underlying22 (by kernel_rfl) hg1 (by rw [hul, show Nat.min 1 (n + 1 - i) = 1 from by simp only [Nat.min_def]; split <;> omega])
          (fun j u hj => by rw [Addr.add_lit, cell_of_row W1 gu _ _ _ _ hU1]; simpa using hj) (by rw [hul, hR0s]; omega) h1u
      obtain ⟨row1, hrow1⟩ : ∃ r, spl R0.toList (i * 4) news = r := ⟨_, rfl⟩
      have hr1 : row1.length = gc * 4 := by rw [← hrow1, spl_len _ _ _ (by rw [hul, Array.length_toList, hR0s]; omega), Array.length_toList, hR0s]
      rw [hrow1] at hcp1
      obtain ⟨W2, hW2⟩ : ∃ W2, W1.setRow g' row1.toArray = W2 := ⟨_, rfl⟩
      rw [hW2] at hcp1
      have hg2 : W2.heap[g']? = some (.cells row1.toArray 45 (0, 0)) := by rw [← hW2]; exact setRow_heap W1 g' _ _ _ _ hg1
      have hgo2 : W2.heap[g]? = some (.cells cur 45 (0, 0)) := by rw [← hW2, setRow_other _ _ _ _ (by omega)]; exact hgo1
      have hcp2 : ∀ ty, (Builtin.copy_ #[22, 22] ty #[.slice (some ⟨g', (i + 1) * 4, none⟩) (n + 1 - (i + 1)) (gc - (i + 1)), .slice (some ⟨g, i * 4, none⟩) (n - i) (n - i)]).run Tryz.prog W2.drew = .ok (goInt (Nat.min (n - i) (n + 1 - (i + 1)))) (W2.drew.setRow g' (spl row1.toArray.toList ((i + 1) * 4) (xs.drop (i * 4))).toArray) := fun ty =>
        copyK W2.drew _ _ ty 45 4 g' ((i + 1) * 4) _ _ ⟨g, i * 4, none⟩ _ _ row1.toArray 45 _ Tryz.underlying22 (by kernel_rfl) hg2 (by rw [hdl, show Nat.min (n - i) (n + 1 - (i + 1)) = n - i from by simp only [Nat.min_def]; split <;> omega])
          (fun j u hj => by
            rw [Addr.add_lit]
            rw [List.getElem?_drop] at hj
            refine Eq.trans (cell_of_row W2 g _ _ _ _ hgo2) ?_
            rw [← Array.getElem?_toList, hcur, List.getElem?_append_left (List.getElem?_eq_some_iff.1 hj).1]; exact hj) (by rw [hdl, List.size_toArray, hr1]; omega) (fun u hu => h1 u (List.mem_of_mem_drop hu))
      have HAP := hid hap
      have HCP1 := hid hcp1
      have HCP2 := hid hcp2
      have HG2 := hid hg2
      have HW1 := hid hW1
      have HW2 := hid hW2
      have HR1 := hid hrow1
      have HM := hid hm
      have HIM := hid him
      have hwm : IntKind.i64.wrap ((n : Int) + 1 - (i : Int)) = (m : Int) := by rw [IntKind.wrap_i64]; omega
      have hin : i ≤ n := by omega
      have hb0 : ¬ (n = i) := by omega
      have hb1 : ¬ (gc = i) := by omega
      have hb2 : ¬ (gc = i + 1) := by omega
      have hgi : i ≤ gc := by omega
      have hgi1 : i + 1 ≤ gc := by omega
      have hz0 : ¬ ((i : Int) = (n : Int)) := by omega
      have hw1 : IntKind.i64.wrap ((i : Int) + 1) = (i : Int) + 1 := by rw [IntKind.wrap_i64]; omega
      have hp1 : (0 : Int) ≤ (i : Int) + 1 := by omega
      have htn : ((i : Int) + 1).toNat = i + 1 := by omega
      have hb3 : (i : Int) + 1 ≤ (n : Int) + 1 := by omega
      have hb5 : (i : Int) ≤ (n : Int) + 1 := by omega
      have hgc63 : gc ≤ 9223372036854775807 := hgm
      clear hap hcp1 hcp2 hg1 hg2 hW1 hW2 hrow1 hr1 hcsz hU hU1 hucell hxcell hg hgo1 hgo2 hR0s him hm
      go_enter Tryz.func58, Tryz.ntmps58
      go_wp2_with (at_builtin; refine Lib.wpList_append_run _ rfl _ _ 22 3 rfl (.slice (some ⟨g, 0, none⟩) i n) (.int .i64 m) rfl rfl _ _ (HAP.out _) ?_)
      go_wp2_with (simp only [HCP1.out])
      go_region_law_o (refine step_copy_run rfl (.tmp 50) (.tmp 53) 22 22 rfl (.slice (some ⟨g', (i + 1) * 4, none⟩) (n + 1 - (i + 1)) (gc - (i + 1))) (.slice (some ⟨g, i * 4, none⟩) (n - i) (n - i)) (by simp [Act.eval, Act.put]) (by simp [Act.eval, Act.put]) (HCP2.out _) ?_)
      go_wp2_with fail
      go_ret
      have hd := insert_new (xs.take (i * 4)) Z1 Z2 (xs.drop (i * 4)) news n i 4 hlt htl hz1 hdl hul
      refine ⟨_, rfl, ?_, ?_⟩
      · refine own_of_row (rest := Z2) (by omega) (setRow_heap W2.drew g' _ _ _ _ HG2.out) hge hgm ?_ ?_ hz2
        · rw [← HR1.out, hR0l]; simpa using hd
        · rw [List.length_append, List.length_append, htl, hdl, hul]; omega
      · rw [← HW2.out, ← HW1.out]
        exact (((Chg.drew _ w).trans (Chg.alloc _ w.drew _)).then (chg_setRow [g'] _ g' _ (.inl (by simp))) (fun j hj hlt => by rw [List.mem_singleton] at hj; omega)).then ((Chg.drew _ _).trans (chg_setRow [g'] _ g' _ (.inl (by simp)))) (fun j hj hlt => by rw [List.mem_singleton] at hj; omega)

set_option maxHeartbeats 4000000 in
set_option maxRecDepth 100000 in
theorem insG_any (w : World) (B : Nat) (v : Value) (n i gu : Nat) (tu : TypeId) (xs news : List Value) (hown : w.ownsRow B 54 2 v n xs) (hi : i ≤ n) (hM : n ≤ 1000000) (h1 : ∀ u ∈ xs, u.oneCell' = true)
    (hU : w.heap[gu]? = some (.cells news.toArray tu (0, 0))) (hul : news.length = 2) (h1u : ∀ u ∈ news, u.oneCell' = true) (hgu : ∀ j ∈ own v, gu ≠ j) (hBw : B ≤ w.heap.size) :
    Calls Tryz.prog 57 #[v, .int .i64 i, .slice (some ⟨gu, 0, none⟩) 1 1] w fun e w' =>
      ∃ u, e = .returned u ∧ w'.ownsRow B 54 2 u (n + 1) (xs.take (i * 2) ++ news ++ xs.drop (i * 2)) ∧ Chg (own v) w w' := by
  have mixed : Tryz.prog.follows .mixedOrders = true := by kernel_rfl
  have hxl := hown.1
  have hucell : ∀ j u, news[j]? = some u → w.cell? ⟨gu, j, none⟩ = some u := fun j u hj => by
    rw [cell_of_row w gu j _ _ _ hU]; simpa using hj
  rcases Nat.eq_or_lt_of_le hi with rfl | hlt
  · -- at the end
    have hv : RdK w 2 (.slice (some ⟨gu, 0, none⟩) 1 1) 1 news := ⟨_, _, rfl, by decide, by decide, by simpa using hul, (by simp), (fun x hx => by cases hx; exact ⟨rfl, fun j u hj => by simpa using hucell j u hj⟩)⟩
    obtain ⟨va, vc, rfl⟩ := (RdK.of_own hown).shape
    have hnil : ∀ a c, Value.slice va i vc = .slice a 0 c → i = 0 := by intro a c h; cases h; rfl
    have HO := hid hown
    have HV := hid hv
    have hvl : i ≤ vc := by
      rcases hown.2 with ⟨h, h0⟩ | ⟨g, cap, cur, h, _, _, hh, _⟩
      · omega
      · cases h; exact hh
    clear hown hU hucell hv
    go_enter Tryz.func57, Tryz.ntmps57
    go_wp2_with (at_builtin; refine appendRK rfl _ _ 23 rfl B 54 2 24 (by decide) _ Tryz.underlying23 info_grp rfl (by decide) HV.out h1u HO.out rfl rfl (by omega) hBw ?_; rintro v' w' ho' hc')
    all_goals
      go_ret
      refine ⟨_, rfl, ?_, by first | exact hc' | (cases va <;> exact hc')⟩
      have e1 : xs.take (i * 2) = xs := List.take_of_length_le (by omega)
      have e2 : xs.drop (i * 2) = [] := List.drop_of_length_le (by omega)
      rw [e1, e2, List.append_nil]
      exact ho'
  · obtain ⟨g, cap, cur, rest, rfl, hB, hltg, hg, hnc, hcm, hcur, _, hrl⟩ := own_row hown (by omega)
    have hcm' : cap ≤ 9223372036854775807 := hcm
    have hcsz : cur.size = cap * 2 := by rw [← Array.length_toList, hcur, List.length_append, hxl, hrl]; omega
    have hgg : gu ≠ g := hgu g (by simp [own, Value.ownBlock])
    have hdl : (xs.drop (i * 2)).length = (n - i) * 2 := by rw [List.length_drop, hxl]; omega
    have htl : (xs.take (i * 2)).length = i * 2 := by rw [List.length_take, hxl]; omega
    have hxcell : ∀ j u, xs[j]? = some u → w.cell? ⟨g, j, none⟩ = some u := fun j u hj => by
      rw [cell_of_row w g j _ _ _ hg, ← Array.getElem?_toList, hcur, List.getElem?_append_left (List.getElem?_eq_some_iff.1 hj).1]; exact hj
    by_cases hroom : n + 1 ≤ cap
    · -- into the room
      have hov : ∀ lb cb, (callFunc 80 #[.slice (some ⟨gu, 0, none⟩) 1 1, .slice (some ⟨g, (i + 1) * 2, none⟩) lb cb]).run Tryz.prog w = .ok (.value (.bool false)) w := fun lb cb => by
        rw [run_callFunc_extern Tryz.func80 (by kernel_rfl) (by kernel_rfl) (by kernel_rfl) (e := Extern.SlicesOverlaps.overlaps #[23, 23] #[4]) (by kernel_rfl),
          Lib.run_overlaps_apart w 23 4 54 Tryz.underlying23 2 sizeOf_G ⟨gu, 0, none⟩ ⟨g, (i + 1) * 2, none⟩ 1 1 lb cb hgg tu 54 2 cur.size (by simp [World.shape?, hU, hul]) (by simp [World.shape?, hg]) (by omega)
            (by simp [World.frozen?, hU]) (by simp [World.frozen?, hU])]
        rfl
      have hcp1 : ∀ ty, (Builtin.copy_ #[23, 23] ty #[.slice (some ⟨g, (i + 1) * 2, none⟩) (n + 1 - (i + 1)) (cap - (i + 1)), .slice (some ⟨g, i * 2, none⟩) (n + 1 - i) (cap - i)]).run Tryz.prog w.drew = .ok (goInt (Nat.min (n + 1 - i) (n + 1 - (i + 1)))) (w.drew.setRow g (spl cur.toList ((i + 1) * 2) (xs.drop (i * 2))).toArray) := fun ty =>
        copyK w.drew _ _ ty 54 2 g ((i + 1) * 2) _ _ ⟨g, i * 2, none⟩ _ _ cur 54 _ Tryz.underlying23 (by kernel_rfl) hg (by rw [hdl, show Nat.min (n + 1 - i) (n + 1 - (i + 1)) = n - i from by simp only [Nat.min_def]; split <;> omega])
          (fun j u hj => by rw [Addr.add_lit]; rw [List.getElem?_drop] at hj; exact hxcell _ _ hj) (by rw [hdl, hcsz]; omega) (fun u hu => h1 u (List.mem_of_mem_drop hu))
      obtain ⟨row1, hrow1⟩ : ∃ r, spl cur.toList ((i + 1) * 2) (xs.drop (i * 2)) = r := ⟨_, rfl⟩
      have hr1 : row1.length = cap * 2 := by rw [← hrow1, spl_len _ _ _ (by rw [hdl, Array.length_toList, hcsz]; omega), Array.length_toList, hcsz]
      rw [hrow1] at hcp1
      obtain ⟨W1, hW1⟩ : ∃ W1, w.drew.setRow g row1.toArray = W1 := ⟨_, rfl⟩
      rw [hW1] at hcp1
      have hg1 : W1.heap[g]? = some (.cells row1.toArray 54 (0, 0)) := by rw [← hW1]; exact setRow_heap w.drew g _ _ _ _ hg
      have hU1 : W1.heap[gu]? = some (.cells news.toArray tu (0, 0)) := by rw [← hW1, setRow_other _ _ _ _ hgg]; exact hU
      have hcp2 : ∀ ty, (Builtin.copy_ #[23, 23] ty #[.slice (some ⟨g, i * 2, none⟩) (n + 1 - i) (cap - i), .slice (some ⟨gu, 0, none⟩) 1 1]).run Tryz.prog W1 = .ok (goInt (Nat.min 1 (n + 1 - i))) (W1.setRow g (spl row1.toArray.toList (i * 2) news).toArray) := fun ty =>
        copyK W1 _ _ ty 54 2 g (i * 2) _ _ ⟨gu, 0, none⟩ _ _ row1.toArray 54 _ Tryz.underlying23 (by kernel_rfl) hg1 (by rw [hul, show Nat.min 1 (n + 1 - i) = 1 from by simp only [Nat.min_def]; split <;> omega])
          (fun j u hj => by rw [Addr.add_lit, cell_of_row W1 gu _ _ _ _ hU1]; simpa using hj) (by rw [hul, List.size_toArray, hr1]; omega) h1u
      have HCP1 := hid hcp1
      have HCP2 := hid hcp2
      have HOV := hid hov
      have HG1 := hid hg1
      have HW1 := hid hW1
      have HR1 := hid hrow1
      have hic : i ≤ cap := by omega
      have hi1c : i + 1 ≤ cap := by omega
      have hn1 : i + 1 ≤ n + 1 := by omega
      have hb1 : ¬ (cap = i) := by omega
      have hw1 : IntKind.i64.wrap ((i : Int) + 1) = (i : Int) + 1 := by rw [IntKind.wrap_i64]; omega
      have hp1 : (0 : Int) ≤ (i : Int) + 1 := by omega
      have htn : ((i : Int) + 1).toNat = i + 1 := by omega
      have hb3 : (i : Int) + 1 ≤ (n : Int) + 1 := by omega
      have hb5 : (i : Int) ≤ (n : Int) + 1 := by omega
      have hb2 : ¬ (cap = i + 1) := by omega
      have hz2 : ¬ ((i : Int) = (n : Int)) := by omega
      clear hcp1 hcp2 hov hg1 hW1 hrow1 hr1 hcsz hU hU1 hucell hxcell hg
      go_enter Tryz.func57, Tryz.ntmps57
      go_wp2_with fail
      go_wp2_with (simp only [HOV.out])
      go_region_law_o (refine step_copy_run rfl (.tmp 73) (.tmp 76) 23 23 rfl (.slice (some ⟨g, (i + 1) * 2, none⟩) (n + 1 - (i + 1)) (cap - (i + 1))) (.slice (some ⟨g, i * 2, none⟩) (n + 1 - i) (cap - i)) (by simp [Act.eval, Act.put]) (by simp [Act.eval, Act.put]) (HCP1.out _) ?_)
      go_wp2_with (simp only [HCP2.out])
      go_ret
      have hd := insert_cells xs rest n i 2 hlt hxl (by rw [hrl]; omega) news hul
      refine ⟨_, rfl, ?_, ?_⟩
      · refine own_of_row (rest := rest.drop 2) hB (setRow_heap W1 g _ _ _ _ HG1.out) hroom hcm ?_ ?_ ?_
        · rw [← HR1.out, hcur]; simpa using hd
        · rw [List.length_append, List.length_append, htl, hdl, hul]; omega
        · rw [List.length_drop, hrl]; omega
      · rw [← HW1.out]
        exact ((Chg.drew _ w).trans (chg_setRow [g] w.drew g _ (.inl (by simp)))).trans (chg_setRow [g] _ g _ (.inl (by simp)))
    · -- into a new row
      have hnc' : n = cap := by omega
      subst hnc'
      obtain ⟨m, hm⟩ : ∃ m, n + 1 - i = m := ⟨_, rfl⟩
      have hap := fun ty => appendZerosK (P := Tryz.prog) w 23 3 ty 54 2 24 _ .i64 .i64 Tryz.underlying23 Tryz.underlying3 info_grp (by decide) (by decide) ⟨g, 0, none⟩ i n m (xs.take (i * 2)) htl
        (fun j u hj => by rw [Addr.add_lit, Nat.zero_add]; exact hxcell j u (List.getElem?_eq_some_iff.2 (by obtain ⟨a, b⟩ := List.getElem?_eq_some_iff.1 hj; exact ⟨by rw [List.length_take] at a; omega, by rw [List.getElem_take] at b; exact b⟩))) (by omega) (by omega) (by omega)
      have him : i + m = n + 1 := by omega
      rw [him] at hap
      have hge := grownCap_ge w (n + 1) n 54
      have hgm : grownCap w (n + 1) n 54 ≤ maxLen := grownCap_le_maxLen w (n + 1) n 54 (by simp only [maxLen]; omega)
      generalize grownCap w (n + 1) n 54 = gc at hap hge hgm
      obtain ⟨Z1, hZ1⟩ : ∃ Z1, (Builtin.zeroCells (Value.agg #[.string ⟨#[]⟩, .int .i64 0]).cells m).toList = Z1 := ⟨_, rfl⟩
      obtain ⟨Z2, hZ2⟩ : ∃ Z2, (Builtin.zeroCells (Value.agg #[.string ⟨#[]⟩, .int .i64 0]).cells (gc - (n + 1))).toList = Z2 := ⟨_, rfl⟩
      have hz1 : Z1.length = (n + 1 - i) * 2 := by rw [← hZ1, zeroCells_len, hm]; rfl
      have hz2 : Z2.length = (gc - (n + 1)) * 2 := by rw [← hZ2, zeroCells_len]; rfl
      obtain ⟨R0, hR0⟩ : ∃ R0, (xs.take (i * 2)).toArray ++ Builtin.zeroCells (Value.agg #[.string ⟨#[]⟩, .int .i64 0]).cells m ++ Builtin.zeroCells (Value.agg #[.string ⟨#[]⟩, .int .i64 0]).cells (gc - (n + 1)) = R0 := ⟨_, rfl⟩
      have hR0l : R0.toList = xs.take (i * 2) ++ Z1 ++ Z2 := by rw [← hR0, Array.toList_append, Array.toList_append, hZ1, hZ2]
      rw [hR0] at hap
      have hR0s : R0.size = gc * 2 := by rw [← Array.length_toList, hR0l, List.length_append, List.length_append, htl, hz1, hz2]; omega
      clear hR0 hZ1 hZ2
      obtain ⟨g', hg'⟩ : ∃ g', w.heap.size = g' := ⟨_, rfl⟩
      rw [hg'] at hap
      obtain ⟨W1, hW1⟩ : ∃ W1, w.drew.alloc (.cells R0 54) = W1 := ⟨_, rfl⟩
      rw [hW1] at hap
      have hg1 : W1.heap[g']? = some (.cells R0 54 (0, 0)) := by rw [← hW1, ← hg']; exact heap_alloc_new w.drew _
      have hgug : gu < w.heap.size := lt_of_block hU
      have hU1 : W1.heap[gu]? = some (.cells news.toArray tu (0, 0)) := by rw [← hW1]; exact (heap_alloc_old w.drew _ hgug).trans hU
      have hgo1 : W1.heap[g]? = some (.cells cur 54 (0, 0)) := by rw [← hW1]; exact (heap_alloc_old w.drew _ hltg).trans hg
      have hcp1 : ∀ ty, (Builtin.copy_ #[23, 23] ty #[.slice (some ⟨g', i * 2, none⟩) (n + 1 - i) (gc - i), .slice (some ⟨gu, 0, none⟩) 1 1]).run Tryz.prog W1 = .ok (goInt (Nat.min 1 (n + 1 - i))) (W1.setRow g' (spl R0.toList (i * 2) news).toArray) := fun ty =>
        copyK W1 _ _ ty 54 2 g' (i * 2) _ _ ⟨gu, 0, none⟩ _ _ R0 54 _ Tryz.underlying23 (by kernel_rfl) hg1 (by rw [hul, show Nat.min 1 (n + 1 - i) = 1 from by simp only [Nat.min_def]; split <;> omega])
          (fun j u hj => by rw [Addr.add_lit, cell_of_row W1 gu _ _ _ _ hU1]; simpa using hj) (by rw [hul, hR0s]; omega) h1u
      obtain ⟨row1, hrow1⟩ : ∃ r, spl R0.toList (i * 2) news = r := ⟨_, rfl⟩
      have hr1 : row1.length = gc * 2 := by rw [← hrow1, spl_len _ _ _ (by rw [hul, Array.length_toList, hR0s]; omega), Array.length_toList, hR0s]
      rw [hrow1] at hcp1
      obtain ⟨W2, hW2⟩ : ∃ W2, W1.setRow g' row1.toArray = W2 := ⟨_, rfl⟩
      rw [hW2] at hcp1
      have hg2 : W2.heap[g']? = some (.cells row1.toArray 54 (0, 0)) := by rw [← hW2]; exact setRow_heap W1 g' _ _ _ _ hg1
      have hgo2 : W2.heap[g]? = some (.cells cur 54 (0, 0)) := by rw [← hW2, setRow_other _ _ _ _ (by omega)]; exact hgo1
      have hcp2 : ∀ ty, (Builtin.copy_ #[23, 23] ty #[.slice (some ⟨g', (i + 1) * 2, none⟩) (n + 1 - (i + 1)) (gc - (i + 1)), .slice (some ⟨g, i * 2, none⟩) (n - i) (n - i)]).run Tryz.prog W2.drew = .ok (goInt (Nat.min (n - i) (n + 1 - (i + 1)))) (W2.drew.setRow g' (spl row1.toArray.toList ((i + 1) * 2) (xs.drop (i * 2))).toArray) := fun ty =>
        copyK W2.drew _ _ ty 54 2 g' ((i + 1) * 2) _ _ ⟨g, i * 2, none⟩ _ _ row1.toArray 54 _ Tryz.underlying23 (by kernel_rfl) hg2 (by rw [hdl, show Nat.min (n - i) (n + 1 - (i + 1)) = n - i from by simp only [Nat.min_def]; split <;> omega])
          (fun j u hj => by
            rw [Addr.add_lit]
            rw [List.getElem?_drop] at hj
            refine Eq.trans (cell_of_row W2 g _ _ _ _ hgo2) ?_
            rw [← Array.getElem?_toList, hcur, List.getElem?_append_left (List.getElem?_eq_some_iff.1 hj).1]; exact hj) (by rw [hdl, List.size_toArray, hr1]; omega) (fun u hu => h1 u (List.mem_of_mem_drop hu))
      have HAP := hid hap
      have HCP1 := hid hcp1
      have HCP2 := hid hcp2
      have HG2 := hid hg2
      have HW1 := hid hW1
      have HW2 := hid hW2
      have HR1 := hid hrow1
      have HM := hid hm
      have HIM := hid him
      have hwm : IntKind.i64.wrap ((n : Int) + 1 - (i : Int)) = (m : Int) := by rw [IntKind.wrap_i64]; omega
      have hin : i ≤ n := by omega
      have hb0 : ¬ (n = i) := by omega
      have hb1 : ¬ (gc = i) := by omega
      have hb2 : ¬ (gc = i + 1) := by omega
      have hgi : i ≤ gc := by omega
      have hgi1 : i + 1 ≤ gc := by omega
      have hz0 : ¬ ((i : Int) = (n : Int)) := by omega
      have hw1 : IntKind.i64.wrap ((i : Int) + 1) = (i : Int) + 1 := by rw [IntKind.wrap_i64]; omega
      have hp1 : (0 : Int) ≤ (i : Int) + 1 := by omega
      have htn : ((i : Int) + 1).toNat = i + 1 := by omega
      have hb3 : (i : Int) + 1 ≤ (n : Int) + 1 := by omega
      have hb5 : (i : Int) ≤ (n : Int) + 1 := by omega
      have hgc63 : gc ≤ 9223372036854775807 := hgm
      clear hap hcp1 hcp2 hg1 hg2 hW1 hW2 hrow1 hr1 hcsz hU hU1 hucell hxcell hg hgo1 hgo2 hR0s him hm
      go_enter Tryz.func57, Tryz.ntmps57
      go_wp2_with (at_builtin; refine Lib.wpList_append_run _ rfl _ _ 23 3 rfl (.slice (some ⟨g, 0, none⟩) i n) (.int .i64 m) rfl rfl _ _ (HAP.out _) ?_)
      go_wp2_with (simp only [HCP1.out])
      go_region_law_o (refine step_copy_run rfl (.tmp 50) (.tmp 53) 23 23 rfl (.slice (some ⟨g', (i + 1) * 2, none⟩) (n + 1 - (i + 1)) (gc - (i + 1))) (.slice (some ⟨g, i * 2, none⟩) (n - i) (n - i)) (by simp [Act.eval, Act.put]) (by simp [Act.eval, Act.put]) (HCP2.out _) ?_)
      go_wp2_with fail
      go_ret
      have hd := insert_new (xs.take (i * 2)) Z1 Z2 (xs.drop (i * 2)) news n i 2 hlt htl hz1 hdl hul
      refine ⟨_, rfl, ?_, ?_⟩
      · refine own_of_row (rest := Z2) (by omega) (setRow_heap W2.drew g' _ _ _ _ HG2.out) hge hgm ?_ ?_ hz2
        · rw [← HR1.out, hR0l]; simpa using hd
        · rw [List.length_append, List.length_append, htl, hdl, hul]; omega
      · rw [← HW2.out, ← HW1.out]
        exact (((Chg.drew _ w).trans (Chg.alloc _ w.drew _)).then (chg_setRow [g'] _ g' _ (.inl (by simp))) (fun j hj hlt => by rw [List.mem_singleton] at hj; omega)).then ((Chg.drew _ _).trans (chg_setRow [g'] _ g' _ (.inl (by simp)))) (fun j hj hlt => by rw [List.mem_singleton] at hj; omega)

end Go.Proofs.YtldkmclfhjcicaaGreatDoor
