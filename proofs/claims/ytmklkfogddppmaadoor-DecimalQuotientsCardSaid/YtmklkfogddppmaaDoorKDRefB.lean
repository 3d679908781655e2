/- digit, trim and Less of the reference of layer 4. -/
import Derived.Deep.LoopGhost
import Derived.Deep.QuietTactic
import Derived.BigQuiet
import Derived.IntWalk
import Derived.Test.YtmklkfogddppmaaDoorKApp4
import Derived.Test.YtmklkfogddppmaaDoorKDecR
import Derived.Test.YtmklkfogddppmaaDoorKPackH
import Derived.Test.YtmklkfogddppmaaDoorKNibL
namespace Go.Proofs.YtmklkfogddppmaaDoor
open Go.RowKit Go.Shelf
set_option linter.unusedVariables false
set_option linter.unusedSimpArgs false

theorem ReadsV.shape {w : World} {v : Value} {l : List Nat} (h : ReadsV w v (l.map en)) {L : Nat} (hL : l.length = L) : ∃ a cap, v = .slice a L cap ∧ L ≤ cap ∧ cap ≤ 9223372036854775807 := by
  subst hL; obtain ⟨a, cap, hv, h1, h2, _⟩ := h
  rw [List.length_map] at hv h1
  exact ⟨a, cap, hv, h1, by unfold maxLen at h2; omega⟩
theorem ReadsV.at {w : World} {a : Option Addr} {L cap : Nat} {l : List Nat} (h : ReadsV w (.slice a L cap) (l.map en)) (i : Nat) (hi : i < L) :
    ∃ bb off, a = some ⟨bb, off, none⟩ ∧ w.cell? ⟨bb, off + i, none⟩ = some (.int .i64 (l.getD i 0 : Nat)) := by
  obtain ⟨a', cap', hv, h1, h2, h3, h4⟩ := h
  rw [List.length_map] at hv
  injection hv with e1 e2 e3
  subst e1 e2 e3
  cases a with
  | none => have := h3 rfl; rw [List.map_eq_nil_iff] at this; rw [this] at hi; simp at hi
  | some x =>
    obtain ⟨hs, hc⟩ := h4 x rfl
    obtain ⟨bb, off, spot⟩ := x
    simp only at hs; subst hs
    refine ⟨bb, off, rfl, ?_⟩
    rw [hc i (by simpa using hi), List.getD_eq_getElem?_getD, List.getElem?_eq_getElem hi]; simp [en]
theorem ReadsV.len {w : World} {a : Option Addr} {L cap : Nat} {l : List Nat} (h : ReadsV w (.slice a L cap) (l.map en)) : l.length = L := by
  obtain ⟨a', cap', hv, _⟩ := h
  rw [List.length_map] at hv
  injection hv with e1 e2 e3
  omega
theorem ReadsV.takeA {w : World} {a : Option Addr} {L cap : Nat} {l : List Nat} (h : ReadsV w (.slice a L cap) (l.map en)) (k : Nat) (hk : k ≤ L) : ReadsV w (.slice a k cap) ((l.take k).map en) := by
  have hl := h.len
  obtain ⟨a', cap', hv, h1, h2, h3, h4⟩ := h
  rw [List.length_map] at hv h1
  injection hv with e1 e2 e3
  subst e1 e2 e3
  refine ⟨a, cap, by simp [hl, Nat.min_eq_left hk], by simp; omega, h2, fun e => by have := h3 e; rw [List.map_eq_nil_iff] at this; rw [this]; simp, fun x hx => ⟨(h4 x hx).1, fun i hi => ?_⟩⟩
  rw [(h4 x hx).2 i (by simp at hi ⊢; omega)]
  simp

/-- The slice value v reads as the digits of n. -/
def Dg (w : World) (v : Value) (n : Nat) : Prop := ReadsV w v ((digs n).map en)
theorem Dg.keep {w w' : World} {v : Value} {n : Nat} (h : Dg w v n) (hc : Chg [] w w') : Dg w' v n := ReadsV.keep h hc (by simp)

set_option maxHeartbeats 400000 in
theorem digit_any (w : World) (v : Value) (l : List Nat) (i : Nat) (hv : ReadsV w v (l.map en)) :
    Calls Tryd.prog 60 #[v, .int .i64 (i : Int)] w fun e w' => e = .returned (.int .i64 (l.getD i 0 : Nat)) ∧ w = w' := by
  obtain ⟨a, cap, rfl, h1, h2⟩ := hv.shape rfl
  have hi0 : ¬ (i : Int) < 0 := by omega
  by_cases hi : i < l.length
  · obtain ⟨bb, off, rfl, hc⟩ := hv.at i hi
    clear hv
    generalize l.getD i 0 = x at *
    generalize l.length = L at *
    have hi' : ¬ ((L : Int) ≤ (i : Int)) := by omega
    go_enter Tryd.func60, Tryd.ntmps60
    go_wp2
    go_returns
    exact ⟨rfl, rfl⟩
  · have hx : l.getD i 0 = 0 := getD_ge _ _ (by omega)
    rw [hx]
    clear hv hx
    generalize l.length = L at *
    have hi' : ((L : Int) ≤ (i : Int)) := by omega
    go_enter Tryd.func60, Tryd.ntmps60
    go_wp2
    go_returns
    exact ⟨rfl, rfl⟩

set_option maxHeartbeats 400000 in
theorem trim_any (w : World) (v : Value) (l : List Nat) (hv : ReadsV w v (l.map en)) (h10 : ∀ q ∈ l, q < 10) :
    Calls Tryd.prog 62 #[v] w fun e w' => ∃ u, e = .returned u ∧ Dg w u (val l) ∧ w = w' := by
  obtain ⟨a, cap, rfl, h1, h2⟩ := hv.shape rfl
  have HT := hid (trim_digs l)
  have H10 := hid h10
  obtain ⟨L, hL⟩ : ∃ L, l.length = L := ⟨_, rfl⟩
  rw [hL] at hv h1 ⊢
  have HL := hid hL
  have HV := hid hv
  have HG := hid (getD_ge l)
  clear hv h10 hL
  go_enter Tryd.func62, Tryd.ntmps62
  go_wp2_with (fail)
  go_loop [3] (fun n => ∃ k : Nat, k ≤ L ∧ n = .int .i64 k ∧ Hid (∀ i, k ≤ i → l.getD i 0 = 0)) (fun n => (intOf n).toNat)
  case atStart => exact ⟨L, Nat.le_refl _, rfl, fun i hi => HG.out i (by rw [HL.out]; exact hi)⟩
  case round =>
    obtain ⟨k, hk, rfl, hz⟩ := hrel
    by_cases hk0 : k = 0
    · subst hk0
      go_wp2_with (fail)
      go_returns
      refine ⟨_, rfl, ?_, rfl⟩
      have := HV.out.takeA 0 (by omega)
      rw [HT.out 0 (by omega) H10.out hz.out (.inl rfl)] at this
      exact this
    · obtain ⟨j, rfl⟩ : ∃ j, k = j + 1 := ⟨k - 1, by omega⟩
      obtain ⟨bb, off, rfl, hc⟩ := HV.out.at j (by omega)
      have hkpos : (0 : Int) < ((j + 1 : Nat) : Int) := by omega
      have hjj : (((j + 1 : Nat) : Int) - 1).toNat = j := by omega
      by_cases hx : l.getD j 0 = 0
      · rw [hx] at hc
        have HZ2 := hid (show ∀ i, j ≤ i → l.getD i 0 = 0 from fun i hi => by
          rcases Nat.eq_or_lt_of_le hi with rfl | h
          · exact hx
          · exact hz.out i h)
        clear hx
        go_wp2_with (fail)
        go_round
        case rel => exact ⟨j, by omega, by go_num, HZ2⟩
        case measure => simp [intOf]
      · have HX := hid (show l.getD (j + 1 - 1) 0 ≠ 0 from hx)
        have hxb : (((l.getD j 0 : Nat) : Int) == 0) = false := beq_eq_false_iff_ne.2 (by omega)
        clear hx
        generalize l.getD j 0 = x at *
        go_wp2_with (fail)
        go_returns
        refine ⟨_, rfl, ?_, rfl⟩
        have := HV.out.takeA (j + 1) (by omega)
        rw [HT.out (j + 1) (by rw [HL.out]; omega) H10.out hz.out (.inr ?_)] at this
        · exact this
        · exact HX.out

end Go.Proofs.YtmklkfogddppmaaDoor

/- Less, plus and minus of the reference of layer 4. -/
namespace Go.Proofs.YtmklkfogddppmaaDoor
open Go.RowKit Go.Shelf
set_option linter.unusedVariables false
set_option linter.unusedSimpArgs false

set_option maxHeartbeats 1000000 in
theorem Less_any (w : World) (va vb : Value) (l m : List Nat) (ha : ReadsV w va (l.map en)) (hb : ReadsV w vb (m.map en)) (hl : ∀ q ∈ l, q < 10) (hm : ∀ q ∈ m, q < 10) :
    Calls Tryd.prog 67 #[va, vb] w fun e w' => e = .returned (.bool (decide (val l < val m))) ∧ w = w' := by
  have D1 := fun k => digit_any w va l k ha
  have D2 := fun k => digit_any w vb m k hb
  obtain ⟨a, ca, rfl, h1, h2⟩ := ha.shape (L := l.length) rfl
  obtain ⟨b, cb, rfl, h3, h4⟩ := hb.shape (L := m.length) rfl
  have HD1 := hid D1
  have HD2 := hid D2
  have HLT := hid (less_at l m hl hm)
  have HGT := hid (less_at m l hm hl)
  have HSM := hid (less_same l m)
  have HE := hid (fun (h : val (l.drop 0) = val (m.drop 0)) => show decide (val l < val m) = false from decide_eq_false (by simp at h; omega))
  have H0 : Hid (∀ k, l.length ≤ k → m.length ≤ k → val (l.drop k) = val (m.drop k)) := fun k e1 e2 => by rw [List.drop_of_length_le e1, List.drop_of_length_le e2]
  clear D1 D2 ha hb hl hm
  generalize hL : l.length = L at *
  generalize hM : m.length = M at *
  clear hL hM
  generalize hR : decide (val l < val m) = R at *
  have HR := hid hR
  clear hR
  rcases (by omega : (L : Int) < (M : Int) ∨ ((L : Int) ≤ (M : Int) ∧ (M : Int) ≤ (L : Int)) ∨ (M : Int) < (L : Int)) with hLM | ⟨hLM, hML⟩ | hLM
  all_goals
    go_enter Tryd.func67, Tryd.ntmps67
    go_wp2_with (fail)
    go_loop [5] (fun i => ∃ (j : Int) (k : Nat), i = .int .i64 j ∧ j ≤ (k : Int) - 1 ∧ (k : Int) - 1 ≤ j ∧ (k : Int) ≤ max (L : Int) (M : Int) ∧ Hid (val (l.drop k) = val (m.drop k))) (fun i => (intOf i + 1).toNat)
    case atStart => exact ⟨_, max L M, rfl, by omega, by omega, by omega, H0.out _ (by omega) (by omega)⟩
    case round =>
      obtain ⟨j, k, rfl, hj1, hj2, hk, hz⟩ := hrel
      by_cases h0 : 0 ≤ j
      · obtain ⟨n, rfl⟩ := Int.eq_ofNat_of_zero_le h0
        obtain rfl : k = n + 1 := by omega
        have d1 := HD1.out n
        have d2 := HD2.out n
        have HLT2 := hid (HLT.out n hz.out)
        have HGT2 := hid (HGT.out n hz.out.symm)
        have HSM2 := hid (HSM.out n hz.out)
        generalize l.getD n 0 = x at *
        generalize m.getD n 0 = y at *
        by_cases hxy : x = y
        · have e1 : ((x : Int) != (y : Int)) = false := by rw [hxy]; simp
          have HN := hid (HSM2.out hxy)
          clear hxy
          go_wp2_with (go_at_call 60; first | ((with_reducible refine d1.mono ?_); rintro e w' ⟨rfl, rfl⟩) | ((with_reducible refine d2.mono ?_); rintro e w' ⟨rfl, rfl⟩))
          go_round
          case rel => exact ⟨_, n, rfl, by omega, by omega, by omega, HN⟩
          case measure => first | (simp [intOf]; done) | (simp [intOf]; omega)
        · have e1 : ((x : Int) != (y : Int)) = true := by simp; omega
          have HXY := hid hxy
          clear hxy
          go_wp2_with (go_at_call 60; first | ((with_reducible refine d1.mono ?_); rintro e w' ⟨rfl, rfl⟩) | ((with_reducible refine d2.mono ?_); rintro e w' ⟨rfl, rfl⟩))
          go_returns
          refine ⟨ret_bool ?_, rfl⟩
          rw [← HR.out]
          have hxy := HXY.out
          rcases Nat.lt_or_gt_of_ne hxy with h | h
          · rw [decide_eq_true (HLT2.out h), decide_eq_true (by omega)]
          · rw [decide_eq_false (by have := HGT2.out h; omega), decide_eq_false (by omega)]
      · obtain rfl : k = 0 := by omega
        have HF := hid (HE.out hz.out)
        go_wp2_with (fail)
        go_returns
        exact ⟨ret_bool HF.out, rfl⟩

set_option maxHeartbeats 1000000 in
theorem plus_any' (w : World) (va vb : Value) (l m : List Nat) (ha : ReadsV w va (l.map en)) (hb : ReadsV w vb (m.map en)) (hl : ∀ q ∈ l, q < 10) (hm : ∀ q ∈ m, q < 10) (hll : l.length ≤ 1000) (hml : m.length ≤ 1000) :
    Calls Tryd.prog 61 #[va, vb] w fun e w' => ∃ u, e = .returned u ∧ Dg w' u (val l + val m) ∧ Chg [] w w' := by
  have HD1 := hid (fun W k (hc : Chg [] w W) => digit_any W va l k (ha.keep hc (by simp)))
  have HD2 := hid (fun W k (hc : Chg [] w W) => digit_any W vb m k (hb.keep hc (by simp)))
  obtain ⟨a, ca, rfl, h1, h2⟩ := ha.shape (L := l.length) rfl
  obtain ⟨b, cb, rfl, h3, h4⟩ := hb.shape (L := m.length) rfl
  have HS := hid (fun (o : List Nat) i c n => plusK_succ (o := o) (i := i) (c := c) hl hm (n := n))
  have HEND := hid (fun (o : List Nat) i => plusK_end (l := l) (m := m) (o := o) (i := i))
  have HK0 := hid (plusK_zero l m)
  have HG1 := hid (getD_lt10 l hl)
  have HG2 := hid (getD_lt10 m hm)
  have HO1 := hid (getD_ge l)
  have HO2 := hid (getD_ge m)
  clear ha hb hl hm
  generalize hL : l.length = L at *
  generalize hM : m.length = M at *
  clear hL hM
  go_enter Tryd.func61, Tryd.ntmps61
  go_wp2_with (fail)
  go_loopw [5, 6, 7] (fun v c i wr => ∃ (k c0 : Nat) (o : List Nat), i = .int .i64 k ∧ c = .int .i64 c0 ∧ (k ≤ L ∨ k ≤ M ∨ (k ≤ max L M + 1 ∧ c0 = 0)) ∧ c0 ≤ 1 ∧ wr.ownsRow w.heap.size 3 1 v k (o.map en) ∧ Hid (plusK l m o k c0) ∧ Chg [] w wr) (fun _ _ i _ => max L M + 2 - (intOf i).toNat)
  case atStart => exact ⟨0, 0, [], rfl, rfl, by omega, by omega, World.ownsRow_nil _ _ _ _, HK0, Chg.refl _ _⟩
  case round =>
    obtain ⟨k, c0, o, rfl, rfl, hk, hc1, hown, hinv, hc⟩ := hrel
    have hsz := hc.size
    have d1 := HD1.out wr k hc
    have d2 := HD2.out wr k hc
    have g1 := HG1.out k
    have g2 := HG2.out k
    have HS2 := hid (HS.out o k c0 _ hinv.out rfl)
    have HZ := hid (show L ≤ k → M ≤ k → l.getD k 0 + m.getD k 0 = 0 from fun e1 e2 => by rw [HO1.out k e1, HO2.out k e2])
    generalize l.getD k 0 = x at *
    generalize m.getD k 0 = y at *
    by_cases hend : L ≤ k ∧ M ≤ k ∧ c0 = 0
    · obtain ⟨e1, e2, rfl⟩ := hend
      have f1 : ¬ (k : Int) < (L : Int) := by omega
      have f2 : ¬ (k : Int) < (M : Int) := by omega
      have HV := hid (HEND.out o k hinv.out e1 e2)
      have ht := trim_any wr _ o (ReadsV.ofn hown hinv.out.1) hinv.out.2.1
      rw [HV.out] at ht
      clear d1 d2
      go_wp2_with (go_at_call 62; refine ht.mono ?_; rintro e w' ⟨u, rfl, hdg, rfl⟩)
      go_returns
      exact ⟨u, rfl, hdg, hc⟩
    · have he := hid (show [Value.int .i64 (((x : Int) + (y : Int) + (c0 : Int)) % 10)] = [(x + y + c0) % 10].map en from by simp [en])
      have hB : k < L ∨ (¬ (k : Int) < (L : Int) ∧ k < M) ∨ (¬ (k : Int) < (L : Int) ∧ ¬ (k : Int) < (M : Int) ∧ 0 < c0) := by omega
      have hnext : k + 1 ≤ L ∨ k + 1 ≤ M ∨ (k + 1 ≤ max L M + 1 ∧ (x + y + c0) / 10 = 0) := by
        by_cases e1 : L ≤ k ∧ M ≤ k
        · have := HZ.out e1.1 e1.2; omega
        · omega
      have HNEXT := hid hnext
      clear hnext hend
      rcases hB with hB | ⟨hB1, hB⟩ | ⟨hB1, hB2, hB⟩
      all_goals
        go_wp2_with (first | (go_at_call 60; first | ((with_reducible refine d1.mono ?_); rintro e w' ⟨rfl, rfl⟩) | ((with_reducible refine d2.mono ?_); rintro e w' ⟨rfl, rfl⟩)) | (at_builtin; refine appendN rfl _ _ 52 rfl w.heap.size 3 8 (.int .i64 0) Tryd.underlying52 info_int rfl (by decide) 1 [_] rfl hown rfl rfl (by simp [Value.oneCell']) (by omega) (by omega) ?_; intro v' w' ho' hc'))
        go_roundw
        case rel =>
          refine ⟨k + 1, (x + y + c0) / 10, o ++ [(x + y + c0) % 10], by go_num, by go_num, HNEXT.out, by omega, ?_, HS2, chg_own hc hown (by omega) hc'⟩
          rw [he.out, ← List.map_append] at ho'
          exact ho'
        case measure => simp [intOf]; omega

theorem digit_q (w : World) (v : Value) (l : List Nat) (i : Nat) (hv : ReadsV w v (l.map en)) (n : Nat) :
    Calls Tryd.prog 60 #[v, .int .i64 (i : Int)] (w.drewN n) fun e w' => e = .returned (.int .i64 (l.getD i 0 : Nat)) ∧ ∃ m, w' = w.drewN m :=
  Calls.quiet_of_same ((digit_any _ v l i (hv.keep ((Chg.refl [] w).drewN n) (by simp))).mono fun e w' h => ⟨h.1, h.2.symm⟩)

set_option maxHeartbeats 1000000 in
theorem minus_any' (w : World) (va vb : Value) (l m : List Nat) (ha : ReadsV w va (l.map en)) (hb : ReadsV w vb (m.map en)) (hl : ∀ q ∈ l, q < 10) (hm : ∀ q ∈ m, q < 10) (hll : l.length ≤ 1000) (hle : val m ≤ val l) :
    Calls Tryd.prog 68 #[va, vb] w fun e w' => ∃ u, e = .returned u ∧ Dg w' u (val l - val m) ∧ Chg [] w w' := by
  have HA := hid (fun W (hc : Chg [] w W) => ha.keep hc (by simp))
  have HD2 := hid (fun W k (hc : Chg [] w W) => digit_q W vb m k (hb.keep hc (by simp)))
  obtain ⟨a, ca, rfl, h1, h2⟩ := ha.shape (L := l.length) rfl
  obtain ⟨b, cb, rfl, h3, h4⟩ := hb.shape (L := m.length) rfl
  have HS := hid (fun (o : List Nat) i c d b' => minusK_succ (o := o) (i := i) (b := c) hl hm (d := d) (b' := b'))
  have HEND := hid (fun (o : List Nat) b => minusK_end (l := l) (m := m) (o := o) (b := b))
  have HK0 := hid (minusK_zero l m)
  have HG1 := hid (getD_lt10 l hl)
  have HG2 := hid (getD_lt10 m hm)
  have HLE := hid hle
  clear ha hb hl hm hle
  generalize hL : l.length = L at *
  generalize hM : m.length = M at *
  clear hL hM
  go_enter Tryd.func68, Tryd.ntmps68
  go_wp2_with (fail)
  go_loopw [5, 6, 7] (fun v c i wr => ∃ (k c0 : Nat) (o : List Nat), i = .int .i64 k ∧ c = .int .i64 c0 ∧ k ≤ L ∧ c0 ≤ 1 ∧ wr.ownsRow w.heap.size 3 1 v k (o.map en) ∧ Hid (minusK l m o k c0) ∧ Chg [] w wr) (fun _ _ i _ => L - (intOf i).toNat)
  case atStart => exact ⟨0, 0, [], rfl, rfl, by omega, by omega, World.ownsRow_nil _ _ _ _, HK0, Chg.refl _ _⟩
  case round =>
    obtain ⟨k, c0, o, rfl, rfl, hk, hc1, hown, hinv, hc⟩ := hrel
    have hsz := hc.size
    by_cases hkL : k < L
    · obtain ⟨bb, off, rfl, hcell⟩ := (HA.out wr hc).at k hkL
      have d2 := HD2.out wr k hc
      have g1 := HG1.out k
      have g2 := HG2.out k
      have HS2 := hid (fun d b' => HS.out o k c0 d b' hinv.out)
      generalize l.getD k 0 = x at *
      generalize m.getD k 0 = y at *
      have hkI : (k : Int) < (L : Int) := by omega
      have HOWN2 := hid (fun n => own_keep hown ((Chg.refl [] wr).drewN n) (by simp))
      by_cases hneg : (x : Int) - (y : Int) - (c0 : Int) < 0
      · obtain ⟨d, hd1, hd2⟩ : ∃ d : Nat, (d : Int) = (x : Int) - y - c0 + 10 ∧ d < 10 := ⟨((x : Int) - y - c0 + 10).toNat, by omega, by omega⟩
        have HS3 := hid (HS2.out d 1 (by omega) hd2 (by omega))
        have he := hid (show [Value.int .i64 ((x : Int) - (y : Int) - (c0 : Int) + 10)] = [d].map en from by simp [en, hd1])
        have w1 : IntKind.i64.wrap ((x : Int) - (y : Int)) = (x : Int) - (y : Int) := IntWalk.i64_in _ (by omega)
        have w2 : IntKind.i64.wrap ((x : Int) - (y : Int) - (c0 : Int)) = (x : Int) - (y : Int) - (c0 : Int) := IntWalk.i64_in _ (by omega)
        have HD := hid hd1
        clear hd1
        go_wp2_with (fail)
        go_quiet ((go_at_call 60; exact d2 _))
        clear w1 w2
        have HD1 := HD.out
        go_wp2_with (at_builtin; refine appendN rfl _ _ 52 rfl w.heap.size 3 8 (.int .i64 0) Tryd.underlying52 info_int rfl (by decide) 1 [_] rfl (HOWN2.out _) rfl rfl (by simp [Value.oneCell']) (by omega) (by simp; omega) ?_; intro v' w' ho' hc')
        go_roundw
        case rel =>
          refine ⟨k + 1, 1, o ++ [d], by go_num, rfl, by omega, by omega, ?_, HS3, chg_own (hc.drewN _) (HOWN2.out _) (by omega) hc'⟩
          rw [he.out, ← List.map_append] at ho'
          exact ho'
        case measure => simp [intOf]; omega
      · obtain ⟨d, hd1, hd2⟩ : ∃ d : Nat, (d : Int) = (x : Int) - y - c0 ∧ d < 10 := ⟨((x : Int) - y - c0).toNat, by omega, by omega⟩
        have HS3 := hid (HS2.out d 0 (by omega) hd2 (by omega))
        have he := hid (show [Value.int .i64 ((x : Int) - (y : Int) - (c0 : Int))] = [d].map en from by simp [en, hd1])
        have w1 : IntKind.i64.wrap ((x : Int) - (y : Int)) = (x : Int) - (y : Int) := IntWalk.i64_in _ (by omega)
        have w2 : IntKind.i64.wrap ((x : Int) - (y : Int) - (c0 : Int)) = (x : Int) - (y : Int) - (c0 : Int) := IntWalk.i64_in _ (by omega)
        have HD := hid hd1
        clear hd1
        go_wp2_with (fail)
        go_quiet ((go_at_call 60; exact d2 _))
        clear w1 w2
        have HD1 := HD.out
        go_wp2_with (at_builtin; refine appendN rfl _ _ 52 rfl w.heap.size 3 8 (.int .i64 0) Tryd.underlying52 info_int rfl (by decide) 1 [_] rfl (HOWN2.out _) rfl rfl (by simp [Value.oneCell']) (by omega) (by simp; omega) ?_; intro v' w' ho' hc')
        go_roundw
        case rel =>
          refine ⟨k + 1, 0, o ++ [d], by go_num, rfl, by omega, by omega, ?_, HS3, chg_own (hc.drewN _) (HOWN2.out _) (by omega) hc'⟩
          rw [he.out, ← List.map_append] at ho'
          exact ho'
        case measure => simp [intOf]; omega
    · obtain rfl : k = L := by omega
      have HV := hid (fun h => HEND.out o c0 h HLE.out)
      have ht := trim_any wr _ o (ReadsV.ofn hown hinv.out.1) hinv.out.2.1
      go_wp2_with (go_at_call 62; refine ht.mono ?_; rintro e w' ⟨u, rfl, hdg, rfl⟩)
      go_returns
      refine ⟨u, rfl, ?_, hc⟩
      rw [← HV.out hinv.out]; exact hdg

end Go.Proofs.YtmklkfogddppmaaDoor
