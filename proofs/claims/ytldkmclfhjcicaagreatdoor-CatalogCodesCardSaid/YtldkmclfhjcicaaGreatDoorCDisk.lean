import Derived.Test.YtldkmclfhjcicaaGreatDoorProg
import Derived.Test.YtldkmclfhjcicaaGreatDoorCRes
import Derived.Test.YtldkmclfhjcicaaGreatDoorCByF
import Derived.Test.YtldkmclfhjcicaaGreatDoorCatP
import Derived.WalkSpells
import Derived.Outline
namespace Go.Proofs.YtldkmclfhjcicaaGreatDoor
open Go.RowKit
set_option linter.unusedVariables false
set_option linter.unusedSimpArgs false

set_option maxHeartbeats 1000000 in
theorem disk_any (w : World) (S : ByteArray) : Calls Tryz.prog 24 #[.string S] w fun e w' => e = .returned (.agg #[.string S, .int .i64 5, .string ⟨#[86, 49]⟩, .int .i64 0]) ∧ Chg [] w w' := by
  have hn := al_new (w := w) (o := .cells #[.string S, .int .i64 5, .string ⟨#[86, 49]⟩, .int .i64 0] 45 (0, 0)) rfl
  obtain ⟨q0, q1, q2, q3⟩ := four_at hn
  clear hn
  go_enter Tryz.func24, Tryz.ntmps24
  go_wp2_with ((with_reducible refine bodyPost_ret (v := .agg #[.string S, .int .i64 5, .string ⟨#[86, 49]⟩, .int .i64 0]) ?_ ?_ ?_); all_goals (first | exact ⟨rfl, Chg.alloc [] w _⟩ | (simp [results, Tryz.f24, go_sem, q0, q1, q2, q3]; done)))

set_option maxHeartbeats 4000000 in
theorem resolves_any (w : World) (ve vg : Value) (c : Cat) (hv : RdC w ve vg c) (S T : ByteArray) (hS : S.size ≤ 1000000) (rel f : Int) (hr63 : -9223372036854775808 ≤ rel) :
    Calls Tryz.prog 25 #[.agg #[ve, vg], .string S, .int .i64 rel, .string T, .int .i64 f] w fun e w' =>
      e = .returned (.bool (decide ((resolveC c S.data.toList rel).1 = T.data.toList) && decide ((resolveC c S.data.toList rel).2 = f))) ∧ Chg [] w w' := by
  obtain ⟨W0, hW0⟩ : ∃ W0, w.alloc (.cells #[ve, vg] 25) = W0 := ⟨_, rfl⟩
  have hbx : W0.heap[w.heap.size]? = some (.cells #[ve, vg] 25 (0, 0)) := by rw [← hW0]; exact al_new rfl
  have hw0 : Chg [] w W0 := by rw [← hW0]; exact Chg.alloc _ _ _
  have hr := Resolve_any W0 ve vg c (hv.keep1 hw0) S hS rel hr63
  obtain ⟨r1, h1⟩ : ∃ r, (resolveC c S.data.toList rel).1 = r := ⟨_, rfl⟩
  obtain ⟨r2, h2⟩ : ∃ r, (resolveC c S.data.toList rel).2 = r := ⟨_, rfl⟩
  rw [h1, h2] at hr ⊢
  obtain ⟨R, hR⟩ : ∃ R : ByteArray, (⟨r1.toArray⟩ : ByteArray) = R := ⟨_, rfl⟩
  have hrs : r1 = R.data.toList := by rw [← hR]
  have hb : bsV r1 = .string R := by unfold bsV; rw [hR]
  rw [hb] at hr
  rw [hrs]
  have HR := hid hr
  have HW0 := hid hW0
  have HB := hid hbx
  clear hv hr hW0 hbx h1 h2 hR hrs hb
  by_cases hn : R.data.toList = T.data.toList
  · have hcmp : (R.toList == T.toList) = true := by rw [str_eq, decide_eq_true hn]
    rw [decide_eq_true hn, Bool.true_and]
    obtain rfl : R = T := str_inj hn
    clear hn hcmp
    by_cases hf : r2 = f
    · subst hf
      have hz : (r2 == r2) = true := by simp
      go_enter Tryz.func25, Tryz.ntmps25
      go_wp2_with (go_at_call 61; rw [HW0.out]; refine HR.out.mono ?_; rintro e W1 ⟨rfl, hc1⟩)
      go_ret
      exact ⟨ret_bool (by simp), hw0.trans hc1⟩
    · have hz : (r2 == f) = false := beq_eq_false_iff_ne.2 hf
      go_enter Tryz.func25, Tryz.ntmps25
      go_wp2_with (go_at_call 61; rw [HW0.out]; refine HR.out.mono ?_; rintro e W1 ⟨rfl, hc1⟩)
      go_ret
      exact ⟨ret_bool (by simp [hf]), hw0.trans hc1⟩
  · have hcmp : (R.toList == T.toList) = false := by rw [str_eq, decide_eq_false hn]
    rw [decide_eq_false hn, Bool.false_and]
    have hne : ¬ R.toList = T.toList := by simpa using hcmp
    clear hn
    go_enter Tryz.func25, Tryz.ntmps25
    go_wp2_with (go_at_call 61; rw [HW0.out]; refine HR.out.mono ?_; rintro e W1 ⟨rfl, hc1⟩)
    go_ret
    exact ⟨rfl, hw0.trans hc1⟩

end Go.Proofs.YtldkmclfhjcicaaGreatDoor
