/- Of and two of the reference of layer 4. -/
import Derived.Test.YtmklkfogddppmaaDoorKDRefD
import Derived.Test.YtmklkfogddppmaaDoorKDOps
import Derived.Test.YtmklkfogddppmaaDoorKDZap
namespace Go.Proofs.YtmklkfogddppmaaDoor
open Go.RowKit Go.Shelf
set_option linter.unusedVariables false
set_option linter.unusedSimpArgs false

theorem val_valsR (u : Nat) : val (valsR (Lib.decDigits u)) = u := by
  by_cases h : u = 0
  · subst h; rw [dec_small (by omega)]; rfl
  · rw [dec_vals u h, val_digs]
theorem valsR_dec_lt (u : Nat) : ∀ q ∈ valsR (Lib.decDigits u), q < 10 := by
  intro q hq
  obtain ⟨c, hc, rfl⟩ := List.mem_map.1 hq
  have := dec_mem u c (List.mem_reverse.1 hc)
  omega
theorem Dg.zero (w : World) : Dg w (.slice none 0 0) 0 := by
  unfold Dg; rw [digs_zero]
  exact ⟨none, 0, rfl, Nat.le_refl _, Nat.zero_le _, (fun _ => rfl), (fun x hx => by cases hx)⟩

set_option maxRecDepth 100000 in
set_option maxHeartbeats 2000000 in
theorem Of_any (w : World) (v : Value) (b : Bs) (hv : Reads w v b) :
    Calls Tryd.prog 56 #[v] w fun e w' => ∃ u, e = .returned (.tuple #[.agg #[.bool (rn b), u], .bool (fok b)]) ∧ Dg w' u (rv b) ∧ Chg [] w w' := by
  have hD := fun (w' : World) (hc : Chg [] w w') => rDecode_any w' v b (hv.keep hc (by simp))
  clear hv
  have HR0 := hid (heap_alloc_new w (.cells #[.bool false, .slice none 0 0] 54))
  cases hb : fok b
  · have hrn : rn b = false := by unfold rn; rw [hb]; rfl
    have hrv : rv b = 0 := by unfold rv; rw [hb]; rfl
    rw [fok_false b hb] at hD
    rw [hrn, hrv]
    clear hrn hrv
    go_enter Tryd.func56, Tryd.ntmps56
    go_wp2_with (go_at_call 63; refine (hD _ (Chg.alloc _ _ _)).mono ?_; rintro e w2 ⟨rfl, hc⟩; have HB := hid (al_old (o := .cells #[.bool false, .string ⟨#[]⟩] 70) (hc.heap HR0.out (by simp))); obtain ⟨s0, s1, s2, s3, s4, s5⟩ := store2 (.bool false) (.slice none 0 0) HB.out; obtain ⟨d0, d1⟩ := two_cells s4.out)
    refine ⟨by simp, ?_⟩
    refine ⟨.tuple #[.agg #[.bool false, .slice none 0 0], .bool false], ?_, ⟨_, rfl, Dg.zero _, ?_⟩⟩
    · simp [results, Tryd.f56, go_sem, d0, d1]
    · exact (((Chg.alloc _ _ _).trans hc).trans (Chg.alloc _ _ _)).then s5.out (by simp)
  · obtain ⟨hrn, hrv⟩ := fok_rd b hb
    obtain ⟨-, -, -, hlt⟩ := fok_parts b hb
    rw [fok_true b hb, hrn, hrv] at hD
    rw [hrv] at hlt
    have hlen : (Lib.decDigits (rv b)).length ≤ 31 := (dec_len _ 31 (by omega)).2 hlt
    have HV := hid (val_valsR (rv b))
    have HVL := hid (valsR_dec_lt (rv b))
    have HDM : Hid (∀ i, i < (Lib.decDigits (rv b)).length → 48 ≤ bN (Lib.decDigits (rv b)) i ∧ bN (Lib.decDigits (rv b)) i ≤ 57) := fun i hi => by rw [bN_get _ _ hi]; exact dec_mem _ _ (List.getElem_mem hi)
    have HT := hid (valsR_take_succ (Lib.decDigits (rv b)))
    have HL := hid (valsR_length (Lib.decDigits (rv b)))
    clear hrn hrv hb hlt
    generalize rv b = vb at *
    generalize rn b = nb at *
    obtain ⟨s, hs⟩ : ∃ s : ByteArray, s = ⟨(Lib.decDigits vb).toArray⟩ := ⟨_, rfl⟩
    have hss : s.data.toList = Lib.decDigits vb := by rw [hs]
    rw [← hs] at hD
    rw [← hss] at HV HVL HDM HT HL hlen
    rw [ba_len] at HDM hlen HL
    clear hs hss
    go_enter Tryd.func56, Tryd.ntmps56
    go_upto_region 4 with (go_at_call 63; refine (hD _ (Chg.alloc _ _ _)).mono ?_; rintro e w2 ⟨rfl, hc⟩)
    have HB1 := hid (al_old (o := .cells #[.bool nb, .string s] 70) (hc.heap HR0.out (by simp)))
    have HB2 := hid (heap_alloc_new w2 (.cells #[.bool nb, .string s] 70))
    have hc0 := ((Chg.alloc [] w (.cells #[.bool false, .slice none 0 0] 54)).trans hc).trans (Chg.alloc [] w2 (.cells #[.bool nb, .string s] 70))
    have HLT := hid (show w.heap.size < w2.heap.size from by have := hc.size; simp at this; omega)
    have HSZ := hid (show (w2.alloc (.cells #[.bool nb, .string s] 70)).heap.size = w2.heap.size + 1 from by simp)
    clear hc hD HR0
    generalize w2.alloc (.cells #[.bool nb, .string s] 70) = W1 at *
    obtain ⟨c0, c1⟩ := two_cells HB2.out
    go_wp2_with (fail)
    go_loopw [6, 7] (fun v i wr => ∃ (k : Nat) (j : Int), i = .int .i64 j ∧ j ≤ (s.size : Int) - 1 - k ∧ (s.size : Int) - 1 - k ≤ j ∧ k ≤ s.size ∧ wr.ownsRow (w2.heap.size + 1) 3 1 v k (((valsR s.data.toList).take k).map en) ∧ Chg [] W1 wr) (fun _ i _ => (intOf i + 1).toNat)
    case atStart => exact ⟨0, _, rfl, by omega, by omega, by omega, World.ownsRow_nil _ _ _ _, Chg.refl _ _⟩
    case round =>
      obtain ⟨k, j, rfl, hj1, hj2, hk, hown, hc⟩ := hrel
      have HB2' := hid (hc.heap HB2.out (by simp))
      obtain ⟨c0', c1'⟩ := two_cells HB2'.out
      clear c0 c1
      have hsz : w2.heap.size + 1 ≤ wr.heap.size := by have := hc.size; have := HSZ.out; omega
      by_cases h0 : 0 ≤ j
      · obtain ⟨m, rfl⟩ := Int.eq_ofNat_of_zero_le h0
        have hm : m < s.size := by omega
        have hx : 48 ≤ (s[m]'hm).toNat ∧ (s[m]'hm).toNat ≤ 57 := by rw [← ba_bN s m hm]; exact HDM.out m hm
        have HT2 := hid (HT.out k (by rw [ba_len]; omega))
        rw [ba_len, show s.size - 1 - k = m from by omega, ba_bN s m hm] at HT2
        have he := hid (show [Value.int .i64 (((s[m]'hm).toNat : Int) - 48)] = [(s[m]'hm).toNat - 48].map en from by simp only [List.map_cons, List.map_nil, en]; rw [show (((s[m]'hm).toNat : Int) - 48) = (((s[m]'hm).toNat - 48 : Nat) : Int) from by omega])
        go_wp2_with (at_builtin; refine appendN rfl _ _ 52 rfl (w2.heap.size + 1) 3 8 (.int .i64 0) Tryd.underlying52 info_int rfl (by decide) 1 [_] rfl hown rfl rfl (by simp [Value.oneCell']) (by omega) (by omega) ?_; intro v' w' ho' hc')
        go_roundw
        case rel =>
          refine ⟨k + 1, _, rfl, by omega, by omega, by omega, ?_, chg_own hc hown (by have := HSZ.out; omega) hc'⟩
          rw [he.out, ← List.map_append, ← HT2.out] at ho'
          exact ho'
        case measure => first | (simp [intOf]; done) | (simp [intOf]; omega)
      · have hk2 : k = s.size := by omega
        have HF := hid (show (valsR s.data.toList).take k = valsR s.data.toList from by rw [hk2]; exact List.take_of_length_le (by rw [HL.out]; exact Nat.le_refl _))
        rw [HF.out] at hown
        have ht := trim_any wr.drew _ _ ((ReadsV.ofn hown (by rw [HL.out, hk2])).keep (Chg.drew [] wr) (by simp)) HVL.out
        rw [HV.out] at ht
        have hcc := hc0.trans hc
        have HB1' := hid (hc.heap HB1.out (by simp))
        clear hown hc HF HB1 HB2 hc0
        go_wp2_with (fail)
        go_region_held3 (fun w' => w'.cell? ⟨w2.heap.size, 0, none⟩ = some (.bool nb))
          (first | (go_keep; done) | (first | assumption | exact s5.out.cell (by assumption) (by have := HLT.out; simp; omega)))
          (first | (go_at_call 62; refine ht.mono ?_; rintro e w3 ⟨u, rfl, hdg, rfl⟩; have HDG := hid hdg; obtain ⟨ua, uL, uc, rfl, -, -, -⟩ := hdg.shape; obtain ⟨s0, s1, s2, s3, s4, s5⟩ := store2 (W := wr) (.bool nb) (.slice ua uL uc) HB1'.out; obtain ⟨z0, z1⟩ := two_cells s4.out))
        go_wp2_with (fail)
        refine ⟨by simp, ?_⟩
        refine ⟨.tuple #[.agg #[.bool nb, .slice ua uL uc], .bool true], ?_, ⟨_, rfl, ?_, ?_⟩⟩
        · simp [results, Tryd.f56, go_sem, z0, z1]
        · exact (show Dg wr _ vb from HDG.out).keepN HB1'.out (fun _ _ h => by cases h) (s5.out.trans (Chg.drew _ _))
        · exact (hcc.then s5.out (by simp)).trans (Chg.drew [] _)

end Go.Proofs.YtmklkfogddppmaaDoor
