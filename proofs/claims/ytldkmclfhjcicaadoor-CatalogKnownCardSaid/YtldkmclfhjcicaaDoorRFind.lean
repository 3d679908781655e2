import Derived.WalkSpells
import Derived.Outline
import Derived.Test.YtldkmclfhjcicaaDoorREnt
import Derived.Test.YtldkmclfhjcicaaDoorCatP
import Derived.Test.YtldkmclfhjcicaaDoorCRm
namespace Go.Proofs.YtldkmclfhjcicaaDoor
open Go.RowKit
set_option linter.unusedVariables false
set_option linter.unusedSimpArgs false

/-- the entries' cells under their condition -/
theorem RdE.opt {w : World} {v : Value} {es : List Ent} (h : RdE w v es) {L : Nat} (hL : es.length = L) : ∃ ea ec, v = .slice ea L ec ∧ Hid (∀ i, i < L → ∃ bb off, ea = some ⟨bb, off, none⟩ ∧ bb < w.heap.size ∧ w.cell? ⟨bb, off + i * 4, none⟩ = some (.string ⟨(es.getD i default).name.toArray⟩) ∧ w.cell? ⟨bb, off + i * 4 + 1, none⟩ = some (.int .i64 (es.getD i default).unit) ∧
        w.cell? ⟨bb, off + i * 4 + 2, none⟩ = some (.string ⟨(es.getD i default).serial.toArray⟩) ∧ w.cell? ⟨bb, off + i * 4 + 3, none⟩ = some (.int .i64 (es.getD i default).file)) := by
  rcases h.parts hL with ⟨_, h0, a, cap, rfl⟩ | ⟨bb, off, cap, rfl, h1, h2, h3, hbb, hc⟩
  · exact ⟨a, cap, by rw [h0], fun i hi => by omega⟩
  · exact ⟨_, _, rfl, fun i hi => ⟨bb, off, rfl, hbb, hc.out i hi⟩⟩
theorem RdG.opt {w : World} {v : Value} {gs : List Grp} (h : RdG w v gs) {L : Nat} (hL : gs.length = L) : ∃ ea ec, v = .slice ea L ec ∧ Hid (∀ i, i < L → ∃ bb off, ea = some ⟨bb, off, none⟩ ∧ bb < w.heap.size ∧ w.cell? ⟨bb, off + i * 2, none⟩ = some (.string ⟨(gs.getD i default).base.toArray⟩) ∧ w.cell? ⟨bb, off + i * 2 + 1, none⟩ = some (.int .i64 (gs.getD i default).limit)) := by
  rcases h.parts hL with ⟨_, h0, a, cap, rfl⟩ | ⟨bb, off, cap, rfl, h1, h2, h3, hbb, hc⟩
  · exact ⟨a, cap, by rw [h0], fun i hi => by omega⟩
  · exact ⟨_, _, rfl, fun i hi => ⟨bb, off, rfl, hbb, hc.out i hi⟩⟩
-- BEGIN

set_option maxHeartbeats 4000000 in
theorem rfind_any (w : World) (ve vg : Value) (c : Cat) (hv : RdC w ve vg c) (Q : ByteArray) (hM : c.es.length ≤ 1000000) : Calls Tryd.prog 89 #[.agg #[ve, vg], .string Q] w fun e w' =>
    e = .returned (.int .i64 (fIdx (namesS c.es) Q.data.toList)) ∧ Chg [] w w' := by
  obtain ⟨L, hL⟩ : ∃ L, c.es.length = L := ⟨_, rfl⟩
  obtain ⟨R, hR⟩ : ∃ R, fIdx (namesS c.es) Q.data.toList = R := ⟨_, rfl⟩
  rw [hR]
  have hln : (namesS c.es).length = L := by unfold namesS; rw [List.length_map]; exact hL
  have HHIT : Hid (∀ k, k < L → (∀ j < k, (c.es.getD j default).name ≠ Q.data.toList) → (c.es.getD k default).name = Q.data.toList → R = k) := fun k hk ha he => by
    rw [← hR]
    exact fIdx_hit (by rw [hln]; exact hk) (fun j hj => by rw [names_getD c.es j (by omega)]; exact ha j hj) (by rw [names_getD c.es k (by omega)]; exact he)
  have HMISS : Hid ((∀ j < L, (c.es.getD j default).name ≠ Q.data.toList) → R = -1) := fun ha => by
    rw [← hR]
    exact fIdx_miss (fun j hj => by rw [hln] at hj; rw [names_getD c.es j (by omega)]; exact ha j hj)
  rw [hL] at hM
  obtain ⟨ea, ec, rfl, HC⟩ := (hv.1).opt hL
  obtain ⟨W0, hW0⟩ : ∃ W0, w.alloc (.cells #[.slice ea L ec, vg] 43) = W0 := ⟨_, rfl⟩
  have hbx : W0.heap[w.heap.size]? = some (.cells #[.slice ea L ec, vg] 43 (0, 0)) := by rw [← hW0]; exact al_new rfl
  have hw0 : Chg [] w W0 := by rw [← hW0]; exact Chg.alloc _ _ _
  obtain ⟨b0, b1⟩ := two_cells hbx
  have HW0 := hid hW0
  clear hv hL hln hR hbx hW0
  go_enter Tryd.func89, Tryd.ntmps89
  go_wp2_with (fail)
  rw [HW0.out]
  go_loop [5] (fun i => ∃ k : Nat, k ≤ L ∧ i = .int .i64 k ∧ Hid (∀ j < k, (c.es.getD j default).name ≠ Q.data.toList)) (fun i => L - (intOf i).toNat)
  case atStart => exact ⟨0, by omega, rfl, (fun j hj => absurd hj (Nat.not_lt_zero _))⟩
  case round =>
    obtain ⟨k, hk, rfl, hno⟩ := hrel
    by_cases hlt : k < L
    · obtain ⟨bb, off, rfl, hbb, k0, k1, k2, k3⟩ := HC.out k hlt
      have hlti : (k : Int) < (L : Int) := by omega
      replace k0 := hw0.cell k0 (by simp)
      have hhit := HHIT.out k hlt hno.out
      have HX : Hid (∀ x, c.es.getD k default = x → x.name ≠ Q.data.toList → ∀ j < k + 1, (c.es.getD j default).name ≠ Q.data.toList) := fun x hx hn j hj => by
        rcases Nat.lt_or_ge j k with h | h
        · exact hno.out j h
        · obtain rfl : j = k := by omega
          rw [hx]; exact hn
      obtain ⟨x, hx⟩ : ∃ x, c.es.getD k default = x := ⟨_, rfl⟩
      rw [hx] at k0 hhit
      have HX' := hid (HX.out x hx)
      clear hx HX k1 k2 k3
      have HHH := hid hhit
      obtain ⟨X, hXe⟩ : ∃ X : ByteArray, (⟨x.name.toArray⟩ : ByteArray) = X := ⟨_, rfl⟩
      have hXd : x.name = X.data.toList := by rw [← hXe]
      rw [hXe] at k0
      by_cases hn : X.data.toList = Q.data.toList
      · obtain rfl : R = (k : Nat) := HHH.out (by rw [hXd]; exact hn)
        obtain rfl : X = Q := str_inj hn
        clear hn hXd hXe hhit
        go_wp2_with (fail)
        go_ret
        exact ⟨rfl, hw0⟩
      · have HN := hid (HX'.out (by rw [hXd]; exact hn))
        have hcmp : (X.toList == Q.toList) = false := by rw [str_eq, decide_eq_false hn]
        clear hn hXd hXe hhit
        go_wp2_with (fail)
        go_round
        case rel => exact ⟨k + 1, by omega, by go_num, HN.out⟩
        case measure => simp [intOf]; omega
    · obtain rfl : k = L := by omega
      obtain rfl : R = -1 := HMISS.out hno.out
      go_wp2_with (fail)
      go_ret
      exact ⟨rfl, hw0⟩

set_option maxHeartbeats 4000000 in
theorem rbase_any (w : World) (ve vg : Value) (c : Cat) (hv : RdC w ve vg c) (Q : ByteArray) (hM : c.gs.length ≤ 1000000) : Calls Tryd.prog 62 #[.agg #[ve, vg], .string Q] w fun e w' =>
    e = .returned (.int .i64 (fIdx (basesS c.gs) Q.data.toList)) ∧ Chg [] w w' := by
  obtain ⟨L, hL⟩ : ∃ L, c.gs.length = L := ⟨_, rfl⟩
  obtain ⟨R, hR⟩ : ∃ R, fIdx (basesS c.gs) Q.data.toList = R := ⟨_, rfl⟩
  rw [hR]
  have hln : (basesS c.gs).length = L := by unfold basesS; rw [List.length_map]; exact hL
  have HHIT : Hid (∀ k, k < L → (∀ j < k, (c.gs.getD j default).base ≠ Q.data.toList) → (c.gs.getD k default).base = Q.data.toList → R = k) := fun k hk ha he => by
    rw [← hR]
    exact fIdx_hit (by rw [hln]; exact hk) (fun j hj => by rw [bases_getD c.gs j (by omega)]; exact ha j hj) (by rw [bases_getD c.gs k (by omega)]; exact he)
  have HMISS : Hid ((∀ j < L, (c.gs.getD j default).base ≠ Q.data.toList) → R = -1) := fun ha => by
    rw [← hR]
    exact fIdx_miss (fun j hj => by rw [hln] at hj; rw [bases_getD c.gs j (by omega)]; exact ha j hj)
  rw [hL] at hM
  obtain ⟨ea, ec, rfl, HC⟩ := (hv.2).opt hL
  obtain ⟨W0, hW0⟩ : ∃ W0, w.alloc (.cells #[ve, .slice ea L ec] 43) = W0 := ⟨_, rfl⟩
  have hbx : W0.heap[w.heap.size]? = some (.cells #[ve, .slice ea L ec] 43 (0, 0)) := by rw [← hW0]; exact al_new rfl
  have hw0 : Chg [] w W0 := by rw [← hW0]; exact Chg.alloc _ _ _
  obtain ⟨b0, b1⟩ := two_cells hbx
  have HW0 := hid hW0
  clear hv hL hln hR hbx hW0
  go_enter Tryd.func62, Tryd.ntmps62
  go_wp2_with (fail)
  rw [HW0.out]
  go_loop [5] (fun i => ∃ k : Nat, k ≤ L ∧ i = .int .i64 k ∧ Hid (∀ j < k, (c.gs.getD j default).base ≠ Q.data.toList)) (fun i => L - (intOf i).toNat)
  case atStart => exact ⟨0, by omega, rfl, (fun j hj => absurd hj (Nat.not_lt_zero _))⟩
  case round =>
    obtain ⟨k, hk, rfl, hno⟩ := hrel
    by_cases hlt : k < L
    · obtain ⟨bb, off, rfl, hbb, k0, k1⟩ := HC.out k hlt
      have hlti : (k : Int) < (L : Int) := by omega
      replace k0 := hw0.cell k0 (by simp)
      have hhit := HHIT.out k hlt hno.out
      have HX : Hid (∀ x, c.gs.getD k default = x → x.base ≠ Q.data.toList → ∀ j < k + 1, (c.gs.getD j default).base ≠ Q.data.toList) := fun x hx hn j hj => by
        rcases Nat.lt_or_ge j k with h | h
        · exact hno.out j h
        · obtain rfl : j = k := by omega
          rw [hx]; exact hn
      obtain ⟨x, hx⟩ : ∃ x, c.gs.getD k default = x := ⟨_, rfl⟩
      rw [hx] at k0 hhit
      have HX' := hid (HX.out x hx)
      clear hx HX k1
      have HHH := hid hhit
      obtain ⟨X, hXe⟩ : ∃ X : ByteArray, (⟨x.base.toArray⟩ : ByteArray) = X := ⟨_, rfl⟩
      have hXd : x.base = X.data.toList := by rw [← hXe]
      rw [hXe] at k0
      by_cases hn : X.data.toList = Q.data.toList
      · obtain rfl : R = (k : Nat) := HHH.out (by rw [hXd]; exact hn)
        obtain rfl : X = Q := str_inj hn
        clear hn hXd hXe hhit
        go_wp2_with (fail)
        go_ret
        exact ⟨rfl, hw0⟩
      · have HN := hid (HX'.out (by rw [hXd]; exact hn))
        have hcmp : (X.toList == Q.toList) = false := by rw [str_eq, decide_eq_false hn]
        clear hn hXd hXe hhit
        go_wp2_with (fail)
        go_round
        case rel => exact ⟨k + 1, by omega, by go_num, HN.out⟩
        case measure => simp [intOf]; omega
    · obtain rfl : k = L := by omega
      obtain rfl : R = -1 := HMISS.out hno.out
      go_wp2_with (fail)
      go_ret
      exact ⟨rfl, hw0⟩
-- END

set_option maxHeartbeats 4000000 in
theorem rnumbers_any (w : World) (ve vg : Value) (c : Cat) (hv : RdC w ve vg c) (hM : c.es.length ≤ 1000000) (S : ByteArray) (hS : S.size ≤ 1000000) : Calls Tryd.prog 63 #[.agg #[ve, vg], .string S] w fun e w' =>
    ∃ u, e = .returned u ∧ w'.ownsRow w.heap.size 3 1 u (numsS c.es S.data.toList).length ((numsS c.es S.data.toList).map en) ∧ Chg [] w w' := by
  obtain ⟨b, hb⟩ : ∃ b, S.data.toList = b := ⟨_, rfl⟩
  obtain ⟨L, hL⟩ : ∃ L, c.es.length = L := ⟨_, rfl⟩
  have HALL : Hid (∀ (u : Value) (W : World), W.ownsRow w.heap.size 3 1 u (numsS (c.es.take L) b).length ((numsS (c.es.take L) b).map en) → W.ownsRow w.heap.size 3 1 u (numsS c.es S.data.toList).length ((numsS c.es S.data.toList).map en)) := fun u W h => by
    rw [← hL, nums_all, ← hb] at h; exact h
  have HN : Hid (∀ i W, Calls Tryd.prog 91 #[.string S, .string ⟨(c.es.getD i default).name.toArray⟩] W fun e w' => e = .returned (.int .i64 (numS b (c.es.getD i default).name : Nat)) ∧ W = w') := hid (fun i W => by
    have h := rnumber_any S ⟨(c.es.getD i default).name.toArray⟩ hS W
    rw [hb] at h; exact h)
  have HST : Hid (∀ k, k < L → numsS (c.es.take (k + 1)) b = if 0 < numS b (c.es.getD k default).name then numsS (c.es.take k) b ++ [numS b (c.es.getD k default).name] else numsS (c.es.take k) b) := fun k hk => nums_take (by omega)
  have HLE : Hid (∀ k, (numsS (c.es.take k) b).length ≤ k) := fun k => by
    unfold numsS gensS; rw [List.length_map]
    exact Nat.le_trans (List.length_filter_le _ _) (by rw [List.length_take]; omega)
  rw [hL] at hM
  obtain ⟨ea, ec, rfl, HC⟩ := (hv.1).opt hL
  have hbx := al_new (w := w) (o := .cells #[.slice ea L ec, vg] 43 (0, 0)) rfl
  have HBX := hid hbx
  clear hv hL hbx
  go_enter Tryd.func63, Tryd.ntmps63
  go_wp2_with (fail)
  have hc0 : Chg [] w (w.alloc (.cells #[.slice ea L ec, vg] 43)) := Chg.alloc _ _ _
  go_loopw [5, 6, 7] (fun v i _ wr => ∃ k : Nat, k ≤ L ∧ i = .int .i64 k ∧ wr.ownsRow w.heap.size 3 1 v (numsS (c.es.take k) b).length ((numsS (c.es.take k) b).map en) ∧ Chg [] w wr ∧ wr.heap[w.heap.size]? = some (.cells #[.slice ea L ec, vg] 43 (0, 0))) (fun _ i _ _ => L - (intOf i).toNat)
  case atStart => exact ⟨0, by omega, rfl, World.ownsRow_nil _ _ _ _, hc0, HBX.out⟩
  case round =>
    clear hc0
    obtain ⟨k, hk, rfl, hown, hc, hbox⟩ := hrel
    obtain ⟨b0, b1⟩ := two_cells hbox
    have HBOX := hid hbox
    clear hbox
    by_cases hlt : k < L
    · obtain ⟨bb, off, rfl, hbb, k0, k1, k2, k3⟩ := HC.out k hlt
      have hlti : (k : Int) < (L : Int) := by omega
      have hlen := HLE.out k
      have hstep := hid (HST.out k hlt)
      replace k0 := hc.cell k0 (by simp)
      have cN := HN.out k
      clear k1 k2 k3
      generalize c.es.getD k default = x at *
      generalize (⟨x.name.toArray⟩ : ByteArray) = X at *
      have HCh := hid hc
      have hBw := hc.size
      by_cases hn : 0 < numS b x.name
      · have hni : (0 : Int) < (numS b x.name : Nat) := by omega
        rw [if_pos hn] at hstep
        generalize numS b x.name = nn at *
        have HCN := hid cN
        have HOwn := hid hown
        clear hown hc cN
        go_wp2_with (first | (go_at_call 91; refine (HCN.out _).mono ?_; rintro e w1 ⟨rfl, rfl⟩) | (at_builtin; refine appendN2 rfl _ _ 94 rfl w.heap.size 3 8 (.int .i64 0) Tryd.underlying94 info_int' rfl (by decide) 1 [_] rfl _ (by simp) HOwn.out rfl rfl (by simp [Value.oneCell']) (by omega) (by omega) ?_; intro v' w' ho' hc'))
        have HO' := hid ho'
        have hch := hid (chg_ownK HCh.out HOwn.out (Nat.le_refl _) hc')
        have hbx' := hid (hc'.heap HBOX.out (fun h => own_ne HOwn.out HBOX.out (by decide) _ h (by simp)))
        clear ho' hc' HCh HOwn HBOX
        go_wp2_with (fail)
        go_roundw
        case rel =>
          refine ⟨k + 1, by omega, by go_num, ?_, hch.out, hbx'.out⟩
          have h := HO'.out
          rw [hstep.out, List.length_append, List.map_append]
          exact h
        case measure => simp [intOf]; omega
      · have hn0 : numS b x.name = 0 := by omega
        rw [if_neg hn] at hstep
        rw [hn0] at cN
        have HCN := hid cN
        have HO := hid hown
        clear hown hc hn hn0 cN
        go_wp2_with (go_at_call 91; refine (HCN.out _).mono ?_; rintro e w1 ⟨rfl, rfl⟩)
        go_roundw
        case rel =>
          refine ⟨k + 1, by omega, by go_num, ?_, HCh.out, HBOX.out⟩
          rw [hstep.out]
          exact HO.out
        case measure => simp [intOf]; omega
    · obtain rfl : L = k := by omega
      go_wp2_with (fail)
      go_ret
      exact ⟨_, rfl, HALL.out _ _ hown, hc⟩

end Go.Proofs.YtldkmclfhjcicaaDoor
