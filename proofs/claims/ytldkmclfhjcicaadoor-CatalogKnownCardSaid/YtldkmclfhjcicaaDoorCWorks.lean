import Derived.Test.YtldkmclfhjcicaaDoorProg
import Derived.Test.YtldkmclfhjcicaaDoorCAdd
import Derived.Test.YtldkmclfhjcicaaDoorCDisk
import Derived.Test.YtldkmclfhjcicaaDoorCEnc
import Derived.Test.YtldkmclfhjcicaaDoorCatP
import Derived.Deep.DeepCutAuto
import Derived.WalkSpells
import Derived.Outline
namespace Go.Proofs.YtldkmclfhjcicaaDoor
open Go.RowKit
set_option linter.unusedVariables false
set_option linter.unusedSimpArgs false

theorem OwC.rdc {w : World} {B : Nat} {ue ug : Value} {c : Cat} (h : OwC w B ue ug c) : RdC w ue ug c := ⟨RdE.of_own h.1, RdG.of_own h.2⟩
theorem OwC.keep1 {w w' : World} {B : Nat} {ue ug : Value} {c : Cat} (h : OwC w B ue ug c) (hc : Chg [] w w') : OwC w' B ue ug c := ⟨ownK_keep1 h.1 hc, ownK_keep1 h.2 hc⟩
theorem OwC.base {w : World} {B B' : Nat} {ue ug : Value} {c : Cat} (h : OwC w B ue ug c) (hB : B' ≤ B) : OwC w B' ue ug c := ⟨ownK_base h.1 hB, ownK_base h.2 hB⟩
theorem OwC.keepC {w w' : World} {B b : Nat} {ue ug : Value} {c : Cat} {cs : Array Value} {fr : Nat × Nat} (h : OwC w B ue ug c) (hb : w.heap[b]? = some (.cells cs 36 fr)) (hc : Chg [b] w w') : OwC w' B ue ug c :=
  ⟨ownK_keep h.1 hc (own_ne h.1 hb (by decide)), ownK_keep h.2 hc (own_ne h.2 hb (by decide))⟩
/-- Add, as the walks of the law meet it -/
theorem Add_to (w : World) (ve vg : Value) (c : Cat) (hv : RdC w ve vg c) (A T : ByteArray) (u f : Int) {d : Cat} {rm : List Ent} {g : Int} (h : addP c ⟨A.data.toList, u, T.data.toList, f⟩ = (d, rm, g)) :
    Calls Tryd.prog 21 #[.agg #[ve, vg], .agg #[.string A, .int .i64 u, .string T, .int .i64 f]] w fun e w' =>
      ∃ ue ug ur, e = .returned (.tuple #[.agg #[ue, ug], ur, .int .i64 g]) ∧ OwC w' w.heap.size ue ug d ∧ w'.ownsRow w.heap.size 50 4 ur rm.length (cE rm) ∧ Chg [] w w' := by
  have hA := Add_any w ve vg c hv A T u f
  rw [h] at hA
  exact hA
theorem Encode_to (w : World) (ve vg : Value) (c : Cat) (hv : RdC w ve vg c) (hvc : validC c = true) {l : Bs} (h : encC c = l) : Calls Tryd.prog 35 #[.agg #[ve, vg]] w fun e w' =>
    ∃ u, e = .returned (.tuple #[u, .int .i64 0]) ∧ OwY w' w.heap.size u l ∧ Chg [] w w' := by subst h; exact Encode_good w ve vg c hv hvc

def wZ : Cat := ⟨[], []⟩
theorem encode_nil (W : World) : Calls Tryd.prog 35 #[.agg #[.slice none 0 0, .slice none 0 0]] W fun e w' => ∃ u, e = .returned (.tuple #[u, .int .i64 0]) ∧ OwY w' W.heap.size u [0, 0, 0, 0] ∧ Chg [] W w' :=
  Encode_to W _ _ ⟨[], []⟩ (RdC.nil W) w_valid0 w_enc0
theorem one_disk : cE [diskS [66]] = [.string ⟨#[66]⟩, .int .i64 5, .string ⟨#[86, 49]⟩, .int .i64 0] := by rw [cE_single]; rfl
theorem encode_one (W : World) : Calls Tryd.prog 35 #[.agg #[.slice (some ⟨W.heap.size, 0, none⟩) 1 1, .slice none 0 0]] (W.alloc (.cells #[.string ⟨#[66]⟩, .int .i64 5, .string ⟨#[86, 49]⟩, .int .i64 0] 50)) fun e w' => ∃ u, e = .returned (.tuple #[u, .int .i64 0]) ∧ OwY w' W.heap.size u [0, 1, 1, 66, 5, 2, 86, 49, 0, 0, 0, 0] ∧ Chg [] (W.alloc (.cells #[.string ⟨#[66]⟩, .int .i64 5, .string ⟨#[86, 49]⟩, .int .i64 0] 50)) w' := by
  have ho := own_litK (w := W) (e := 50) 4 [.string ⟨#[66]⟩, .int .i64 5, .string ⟨#[86, 49]⟩, .int .i64 0] (m := 1) rfl (by decide)
  have he : RdE (W.alloc (.cells #[.string ⟨#[66]⟩, .int .i64 5, .string ⟨#[86, 49]⟩, .int .i64 0] 50)) (.slice (some ⟨W.heap.size, 0, none⟩) 1 1) [diskS [66]] := by
    unfold RdE; rw [one_disk]; exact RdK.of_own ho
  refine (Encode_to _ _ _ ⟨[diskS [66]], []⟩ ⟨he, RdG.nil _⟩ w_valid1 w_enc1).mono ?_
  rintro e w' ⟨u, h1, h2, h3⟩
  exact ⟨u, h1, h2.base (by simp), h3⟩
set_option maxHeartbeats 32000000 in
set_option maxRecDepth 100000 in
theorem works_yes (w : World) : Calls Tryd.prog 16 #[] w fun e w' => e = .returned (.bool true) ∧ Chg [] w w' := by
  have HN1 : Hid (∀ W, Calls Tryd.prog 14 #[.string ⟨#[83, 89, 83, 49, 46, 80, 82, 79, 67, 76, 73, 66]⟩] W fun e w' => e = .returned (.bool true) ∧ Chg [] W w') := fun W => by
    have h := Name_any ⟨#[83, 89, 83, 49, 46, 80, 82, 79, 67, 76, 73, 66]⟩ W
    rw [show nameOk ((⟨#[83, 89, 83, 49, 46, 80, 82, 79, 67, 76, 73, 66]⟩ : ByteArray).data.toList) = true from w_name1] at h; exact h
  have HN2 : Hid (∀ W, Calls Tryd.prog 14 #[.string ⟨#[83, 89, 83, 49, 46, 46, 88]⟩] W fun e w' => e = .returned (.bool false) ∧ Chg [] W w') := fun W => by
    have h := Name_any ⟨#[83, 89, 83, 49, 46, 46, 88]⟩ W
    rw [show nameOk ((⟨#[83, 89, 83, 49, 46, 46, 88]⟩ : ByteArray).data.toList) = false from w_name2] at h; exact h
  have HN3 : Hid (∀ W, Calls Tryd.prog 14 #[.string ⟨#[49, 65, 66, 67]⟩] W fun e w' => e = .returned (.bool false) ∧ Chg [] W w') := fun W => by
    have h := Name_any ⟨#[49, 65, 66, 67]⟩ W
    rw [show nameOk ((⟨#[49, 65, 66, 67]⟩ : ByteArray).data.toList) = false from w_name3] at h; exact h
  have HN4 : Hid (∀ W, Calls Tryd.prog 14 #[.string ⟨#[65, 46]⟩] W fun e w' => e = .returned (.bool false) ∧ Chg [] W w') := fun W => by
    have h := Name_any ⟨#[65, 46]⟩ W
    rw [show nameOk ((⟨#[65, 46]⟩ : ByteArray).data.toList) = false from w_name4] at h; exact h
  have HN5 : Hid (∀ W, Calls Tryd.prog 14 #[.string ⟨#[65, 66, 67, 68, 69, 70, 71, 72, 73]⟩] W fun e w' => e = .returned (.bool false) ∧ Chg [] W w') := fun W => by
    have h := Name_any ⟨#[65, 66, 67, 68, 69, 70, 71, 72, 73]⟩ W
    rw [show nameOk ((⟨#[65, 66, 67, 68, 69, 70, 71, 72, 73]⟩ : ByteArray).data.toList) = false from w_name5] at h; exact h
  have HN6 : Hid (∀ W, Calls Tryd.prog 14 #[.string ⟨#[]⟩] W fun e w' => e = .returned (.bool false) ∧ Chg [] W w') := fun W => by
    have h := Name_any ⟨#[]⟩ W
    rw [show nameOk ((⟨#[]⟩ : ByteArray).data.toList) = false from w_name6] at h; exact h
  have HG1 : Hid (∀ W, Calls Tryd.prog 12 #[.string ⟨#[80, 65, 89, 46, 76, 73, 83, 84]⟩, .int .i64 7] W fun e w' => e = .returned (.tuple #[.string ⟨#[80, 65, 89, 46, 76, 73, 83, 84, 46, 71, 48, 48, 48, 55, 86, 48, 48]⟩, .bool true]) ∧ Chg [] W w') := fun W => by
    have h := Generation_any ⟨#[80, 65, 89, 46, 76, 73, 83, 84]⟩ 7 W
    rw [show genS ((⟨#[80, 65, 89, 46, 76, 73, 83, 84]⟩ : ByteArray).data.toList) 7 = ([80, 65, 89, 46, 76, 73, 83, 84, 46, 71, 48, 48, 48, 55, 86, 48, 48], true) from w_gen1] at h; exact h
  have HG2 : Hid (∀ W, Calls Tryd.prog 12 #[.string ⟨#[80, 65, 89, 46, 76, 73, 83, 84]⟩, .int .i64 0] W fun e w' => e = .returned (.tuple #[.string ⟨#[]⟩, .bool false]) ∧ Chg [] W w') := fun W => by
    have h := Generation_any ⟨#[80, 65, 89, 46, 76, 73, 83, 84]⟩ 0 W
    rw [show genS ((⟨#[80, 65, 89, 46, 76, 73, 83, 84]⟩ : ByteArray).data.toList) 0 = ([], false) from w_gen2] at h; exact h
  have HG3 : Hid (∀ W, Calls Tryd.prog 12 #[.string ⟨#[65]⟩, .int .i64 9999] W fun e w' => e = .returned (.tuple #[.string ⟨#[65, 46, 71, 57, 57, 57, 57, 86, 48, 48]⟩, .bool true]) ∧ Chg [] W w') := fun W => by
    have h := Generation_any ⟨#[65]⟩ 9999 W
    rw [show genS ((⟨#[65]⟩ : ByteArray).data.toList) 9999 = ([65, 46, 71, 57, 57, 57, 57, 86, 48, 48], true) from w_gen3] at h; exact h
  have HD : Hid (∀ W, Calls Tryd.prog 17 #[.agg #[.slice none 0 0, .slice none 0 0], .string ⟨#[65]⟩, .int .i64 2] W fun e w' => ∃ ue ug, e = .returned (.tuple #[.agg #[ue, ug], .int .i64 0]) ∧ OwC w' W.heap.size ue ug (wC 0) ∧ Chg [] W w') := fun W => by
    have h := Define_any W (.slice none 0 0) (.slice none 0 0) ⟨[], []⟩ (RdC.nil W) ⟨#[65]⟩ 2
    rw [show defineC ⟨[], []⟩ ((⟨#[65]⟩ : ByteArray).data.toList) 2 = (wC 0, 0) from w_define] at h; exact h
  have hc : Chg [] w w := Chg.refl _ _
  go_enter Tryd.func16, Tryd.ntmps16
  go_wp2_with (first
    | (go_at_call 14; ((with_reducible refine (HN1.out _).mono ?_); rintro e W1 ⟨rfl, hcn⟩; replace hc := hc.trans hcn; clear hcn))
    | (go_at_call 14; ((with_reducible refine (HN2.out _).mono ?_); rintro e W1 ⟨rfl, hcn⟩; replace hc := hc.trans hcn; clear hcn))
    | (go_at_call 14; ((with_reducible refine (HN3.out _).mono ?_); rintro e W1 ⟨rfl, hcn⟩; replace hc := hc.trans hcn; clear hcn))
    | (go_at_call 14; ((with_reducible refine (HN4.out _).mono ?_); rintro e W1 ⟨rfl, hcn⟩; replace hc := hc.trans hcn; clear hcn))
    | (go_at_call 14; ((with_reducible refine (HN5.out _).mono ?_); rintro e W1 ⟨rfl, hcn⟩; replace hc := hc.trans hcn; clear hcn))
    | (go_at_call 14; ((with_reducible refine (HN6.out _).mono ?_); rintro e W1 ⟨rfl, hcn⟩; replace hc := hc.trans hcn; clear hcn))
    | (go_at_call 12; ((with_reducible refine (HG1.out _).mono ?_); rintro e W1 ⟨rfl, hcn⟩; replace hc := hc.trans hcn; clear hcn))
    | (go_at_call 12; ((with_reducible refine (HG2.out _).mono ?_); rintro e W1 ⟨rfl, hcn⟩; replace hc := hc.trans hcn; clear hcn))
    | (go_at_call 12; ((with_reducible refine (HG3.out _).mono ?_); rintro e W1 ⟨rfl, hcn⟩; replace hc := hc.trans hcn; clear hcn))
    | (go_at_call 17; ((with_reducible refine (HD.out _).mono ?_); rintro e W2 ⟨ue, ug, rfl, how, hcn⟩; obtain ⟨ua, uc, rfl⟩ := (RdK.of_own how.1).shape; obtain ⟨va, vc, rfl⟩ := (RdK.of_own how.2).shape; replace how := how.base hc.size; replace hc := hc.trans hcn; clear hcn)))
  have hb8 := al_new (w := W2) (o := .cells #[.slice ua (wC 0).es.length uc, .slice va (wC 0).gs.length vc] 36 (0, 0)) rfl
  have how1 := how.keep1 (Chg.alloc [] W2 (.cells #[.slice ua (wC 0).es.length uc, .slice va (wC 0).gs.length vc] 36))
  have hc1 := hc.trans (Chg.alloc [] W2 (.cells #[.slice ua (wC 0).es.length uc, .slice va (wC 0).gs.length vc] 36))
  have hwb : w.heap.size ≤ W2.heap.size := hc.size
  clear how hc HN1 HN2 HN3 HN4 HN5 HN6 HG1 HG2 HG3 HD
  obtain ⟨W3, hW3⟩ : ∃ W', W2.alloc (.cells #[.slice ua (wC 0).es.length uc, .slice va (wC 0).gs.length vc] 36) = W' := ⟨_, rfl⟩
  obtain ⟨b8, hb⟩ : ∃ b, W2.heap.size = b := ⟨_, rfl⟩
  rw [hW3, hb] at hb8 ⊢
  rw [hW3] at how1 hc1
  rw [hb] at hwb
  clear hW3 hb
  have i0 : ∀ w, (Instr.index 88 (.agg #[.string ⟨#[65, 46, 71, 48, 48, 48, 51, 86, 48, 48]⟩, .string ⟨#[65, 46, 71, 48, 48, 48, 52, 86, 48, 48]⟩, .string ⟨#[65, 46, 71, 48, 48, 48, 53, 86, 48, 48]⟩]) (.int .i64 0)).run Tryd.prog w = .ok (.string ⟨#[65, 46, 71, 48, 48, 48, 51, 86, 48, 48]⟩) w := fun _ => by kernel_rfl
  have i1 : ∀ w, (Instr.index 88 (.agg #[.string ⟨#[65, 46, 71, 48, 48, 48, 51, 86, 48, 48]⟩, .string ⟨#[65, 46, 71, 48, 48, 48, 52, 86, 48, 48]⟩, .string ⟨#[65, 46, 71, 48, 48, 48, 53, 86, 48, 48]⟩]) (.int .i64 1)).run Tryd.prog w = .ok (.string ⟨#[65, 46, 71, 48, 48, 48, 52, 86, 48, 48]⟩) w := fun _ => by kernel_rfl
  have i2 : ∀ w, (Instr.index 88 (.agg #[.string ⟨#[65, 46, 71, 48, 48, 48, 51, 86, 48, 48]⟩, .string ⟨#[65, 46, 71, 48, 48, 48, 52, 86, 48, 48]⟩, .string ⟨#[65, 46, 71, 48, 48, 48, 53, 86, 48, 48]⟩]) (.int .i64 2)).run Tryd.prog w = .ok (.string ⟨#[65, 46, 71, 48, 48, 48, 53, 86, 48, 48]⟩) w := fun _ => by kernel_rfl
  go_loopw [10, 11, 12, 13, 14, 90] (fun _ _ _ _ _ s90 wr => ∃ k : Nat, k ≤ 3 ∧ s90 = .int .i64 k ∧ Chg [] w wr ∧ ∃ ve vg, wr.heap[b8]? = some (.cells #[ve, vg] 36 (0, 0)) ∧ OwC wr w.heap.size ve vg (wC k)) (fun _ _ _ _ _ i _ => 3 - (intOf i).toNat)
  case atStart => exact ⟨0, by omega, rfl, hc1, _, _, hb8, how1⟩
  case round =>
    clear hc1 hb8 how1
    obtain ⟨k, hk, rfl, hc, ve, vg, hb8, how⟩ := hrel
    by_cases hk0 : k = 0
    · as_aux_lemma =>
        subst hk0
        have HB8 := hid hb8
        have HOW := hid how
        have HC := hid hc
        clear hb8 how hc
        obtain ⟨wb, hwb'⟩ : ∃ W', wr = W' := ⟨_, rfl⟩
        rw [hwb'] at HB8 HOW HC ⊢
        clear hwb'
        go_wp2_with (fail)
        refine region_held (S := fun w' => w'.heap[b8]? = some (.cells #[ve, vg] 36 (0, 0))) (by kernel_rfl) (n := 12) rfl (l := #[false, false, false, false, false, false, false, false, false, false, false, false]) rfl ?_
        obtain ⟨V1, hE1⟩ : ∃ W', wb.drew = W' := ⟨_, rfl⟩
        rw [hE1]
        have hA1 : Chg [] wb V1 := by rw [← hE1]; exact Chg.drew [] _
        have hS1 := hA1.heap HB8.out (by simp)
        clear hE1
        refine held_take' 0 95 (listed' := #[true, false, false, false, false, false, false, false, false, false, false, false]) (v := ?v1) (t' := ?t1) rfl rfl (by kernel_rfl) (by rfl) ?hv1 (fun _ _ _ h => h) hS1 rfl ?ht1 ?rest1; (case hv1 => (intro W' hW'; obtain ⟨q0, q1⟩ := two_cells hW'; go_simp; try with_reducible rfl)); case ht1 => (simp only [List.setIfInBounds_toArray, List.set_cons_zero, List.set_cons_succ]; with_reducible rfl)
        refine held_take' 1 96 (listed' := #[true, true, false, false, false, false, false, false, false, false, false, false]) (v := ?v2) (t' := ?t2) rfl rfl (by kernel_rfl) (by rfl) ?hv2 (fun _ _ _ h => h) hS1 rfl ?ht2 ?rest2; (case hv2 => (intro W' hW'; obtain ⟨q0, q1⟩ := two_cells hW'; go_simp; try with_reducible rfl)); case ht2 => (simp only [List.setIfInBounds_toArray, List.set_cons_zero, List.set_cons_succ]; with_reducible rfl)
        refine held_two 2 8 rfl rfl (by kernel_rfl) (by rfl) (by rfl) (fun K hK => ?_) (fun K hK => ?_)
        · go_simp
          refine (disk_any V1 ⟨#[65, 46, 71, 48, 48, 48, 51, 86, 48, 48]⟩).mono ?_
          rintro e V2 ⟨rfl, hA2⟩
          have hS2 := hA2.heap hS1 (by simp)
          refine hK.out _ _ hS2 ?_
          clear hK K
          show wpAnyH _ _ _ _ _ _ #[true, true, true, false, false, false, false, false, false, false, false, false] _ _
          refine held_two 3 8 rfl rfl (by kernel_rfl) (by rfl) (by rfl) (fun K hK => ?_) (fun K hK => ?_)
          · go_simp
            refine (Add_to (d := wC 1) V2 ve vg (wC 0) (HOW.out.rdc.keep1 (hA1.trans hA2)) ⟨#[65, 46, 71, 48, 48, 48, 51, 86, 48, 48]⟩ ⟨#[86, 49]⟩ 5 0 (w_add 0 (by decide))).mono ?_
            rintro e V3 ⟨ue, ug, ur, rfl, hoc, hor, hA3⟩
            obtain ⟨ua, uc, rfl⟩ := (RdK.of_own hoc.1).shape
            obtain ⟨va, vc, rfl⟩ := (RdK.of_own hoc.2).shape
            replace hoc := hoc.base ((hA1.trans hA2).size)
            replace hor := ownK_base hor ((hA1.trans hA2).size)
            have hS3 := hA3.heap hS2 (by simp)
            refine hK.out _ _ hS3 ?_
            clear hK K
            show wpAnyH _ _ _ _ _ _ #[true, true, true, true, false, false, false, false, false, false, false, false] _ _
            refine held_take' 4 94 (listed' := #[true, true, true, true, true, false, false, false, false, false, false, false]) (v := ?v3) (t' := ?t3) rfl rfl (by kernel_rfl) (by rfl) ?hv3 (fun _ _ _ h => h) hS3 rfl ?ht3 ?rest3; (case hv3 => (intro W' hW'; obtain ⟨q0, q1⟩ := two_cells hW'; go_simp; try with_reducible rfl)); case ht3 => (simp only [List.setIfInBounds_toArray, List.set_cons_zero, List.set_cons_succ]; with_reducible rfl)
            refine held_take' 5 99 (listed' := #[true, true, true, true, true, true, false, false, false, false, false, false]) (v := ?v4) (t' := ?t4) rfl rfl (by kernel_rfl) (by rfl) ?hv4 (fun _ _ _ h => h) hS3 rfl ?ht4 ?rest4; (case hv4 => (intro W' hW'; obtain ⟨q0, q1⟩ := two_cells hW'; go_simp; try with_reducible rfl)); case ht4 => (simp only [List.setIfInBounds_toArray, List.set_cons_zero, List.set_cons_succ]; with_reducible rfl)
            refine held_take' 6 100 (listed' := #[true, true, true, true, true, true, true, false, false, false, false, false]) (v := ?v5) (t' := ?t5) rfl rfl (by kernel_rfl) (by rfl) ?hv5 (fun _ _ _ h => h) hS3 rfl ?ht5 ?rest5; (case hv5 => (intro W' hW'; obtain ⟨q0, q1⟩ := two_cells hW'; go_simp; try with_reducible rfl)); case ht5 => (simp only [List.setIfInBounds_toArray, List.set_cons_zero, List.set_cons_succ]; with_reducible rfl)
            refine held_take' 7 101 (listed' := #[true, true, true, true, true, true, true, true, false, false, false, false]) (v := ?v6) (t' := ?t6) rfl rfl (by kernel_rfl) (by rfl) ?hv6 (fun _ _ _ h => h) hS3 rfl ?ht6 ?rest6; (case hv6 => (intro W' hW'; obtain ⟨q0, q1⟩ := two_cells hW'; go_simp; try with_reducible rfl)); case ht6 => (simp only [List.setIfInBounds_toArray, List.set_cons_zero, List.set_cons_succ]; with_reducible rfl)
            refine held_one 8 rfl (by kernel_rfl) (by rfl) (fun K hK => ?_)
            go_simp
            have hx4 := al_new (w := V3) (o := .cells #[.slice none 0 0, .slice none 0 0] 36) rfl
            have hA4 := Chg.alloc [] V3 (.cells #[.slice none 0 0, .slice none 0 0] 36)
            have hS4 := hA4.heap hS3 (by simp)
            have hgx : wb.heap.size ≤ V3.heap.size := (((hA1.trans hA2).trans hA3)).size
            refine hK.out _ _ hS4 ?_
            clear hK K
            generalize V3.alloc (.cells #[.slice none 0 0, .slice none 0 0] 36) = V4 at hx4 hA4 hS4 ⊢
            generalize V3.heap.size = gx at hx4 hgx ⊢
            replace hoc := hoc.keep1 hA4
            replace hor := ownK_keep1 hor hA4
            show wpAnyH _ _ _ _ _ _ #[true, true, true, true, true, true, true, true, true, false, false, false] _ _
            refine held_one 9 rfl (by kernel_rfl) (by rfl) (fun K hK => ?_)
            obtain ⟨r0, r1, f0, f1, HR2, HC2⟩ := store2 (.slice ua (wC 1).es.length uc) (.slice va (wC 1).gs.length vc) hx4
            have hR2 := HR2.out
            have hC2 := HC2.out
            clear HR2 HC2
            have hoc2 := hoc.keepC hx4 hC2
            have hor2 := ownK_keep hor hC2 (own_ne hor hx4 (by decide))
            have hS5 := hC2.heap hS4 (by rw [List.mem_singleton]; have := lt_of_block HB8.out; omega)
            have hcx : Chg [] wb _ := (((hA1.trans hA2).trans hA3).trans hA4).then hC2 (by intro j hj hlt; rw [List.mem_singleton] at hj; omega)
            obtain ⟨V5, hV5⟩ : ∃ W', (V4.setCell ⟨gx, 0, none⟩ (.slice ua (wC 1).es.length uc)).setCell ⟨gx, 1, none⟩ (.slice va (wC 1).gs.length vc) = W' := ⟨_, rfl⟩
            rw [hV5] at hR2 hoc2 hor2 hS5 hcx
            clear hC2
            go_simp
            try rw [hV5]
            clear hV5
            refine hK.out _ _ hS5 ?_
            clear hK K
            show wpAnyH _ _ _ _ _ _ #[true, true, true, true, true, true, true, true, true, true, false, false] _ _
            refine held_take' 10 13 (listed' := #[true, true, true, true, true, true, true, true, true, true, true, false]) (v := ?v7) (t' := ?t7) rfl rfl (by kernel_rfl) (by rfl) ?hv7 (fun _ _ _ h => h) hS5 rfl ?ht7 ?rest7; (case hv7 => (intro W' hW'; obtain ⟨q0, q1⟩ := two_cells hW'; go_simp; try with_reducible rfl)); case ht7 => (simp only [List.setIfInBounds_toArray, List.set_cons_zero, List.set_cons_succ]; with_reducible rfl)
            refine held_take' 11 14 (listed' := #[true, true, true, true, true, true, true, true, true, true, true, true]) (v := ?v8) (t' := ?t8) rfl rfl (by kernel_rfl) (by rfl) ?hv8 (fun _ _ _ h => h) hS5 rfl ?ht8 ?rest8; (case hv8 => (intro W' hW'; obtain ⟨q0, q1⟩ := two_cells hW'; go_simp; try with_reducible rfl)); case ht8 => (simp only [List.setIfInBounds_toArray, List.set_cons_zero, List.set_cons_succ]; with_reducible rfl)
            refine wpAnyH_done (by kernel_rfl) ?_ _
            obtain ⟨wl, hwl⟩ : ∃ W', V5 = W' := ⟨_, rfl⟩
            rw [hwl] at hR2 hoc2 hor2 hS5 hcx ⊢
            have HB9 := hid hS5
            have HR2 := hid hR2
            have HOC := hid hoc2
            have HOR := hid hor2
            have HCX := hid hcx
            have HNX : Hid (¬ gx = b8) := hid (by have := lt_of_block HB8.out; omega)
            clear hoc hor hoc2 hor2 hR2 hcx hS5 hx4 r0 r1 f0 f1 hgx hwl
            obtain ⟨x0, x1⟩ := two_cells HR2.out
            obtain ⟨z0, z1⟩ := two_cells HB9.out
            obtain ⟨ra, rc, rfl⟩ := (RdK.of_own HOR.out).shape
            rw [show (wR 0).length = 0 from rfl]
            go_wp2_with (fail)
            refine wp_region_later (by kernel_rfl) (by kernel_rfl) (Chg.refl [] wl) ?_
            repeat (first | go_big_quiet_step (fail) | quiet_step (fail))
            refine wpQuiet_nil ?_
            rintro wq ⟨⟨_, hcq⟩, rfl⟩
            have HB9' := hid (hcq.heap HB9.out (by simp))
            have HR2' := hid (hcq.heap HR2.out (by simp))
            obtain ⟨x0, x1⟩ := two_cells HR2'.out
            obtain ⟨r0, r1, f0, f1, -, -⟩ := store2 (.slice ua (wC 1).es.length uc) (.slice va (wC 1).gs.length vc) HB9'.out
            have hnx : ¬ gx = b8 := HNX.out
            have hnx' : ¬ b8 = gx := fun h => HNX.out h.symm
            go_wp2_with (fail)
            obtain ⟨-, -, -, -, HR3, HC3⟩ := store2 (.slice ua (wC 1).es.length uc) (.slice va (wC 1).gs.length vc) HB9'.out
            go_roundw
            case rel => exact ⟨1, by omega, by rfl, ((HC.out.trans HCX.out).trans hcq).then HC3.out (by intro j hj hlt; rw [List.mem_singleton] at hj; omega), _, _, HR3.out, (HOC.out.keep1 hcq |>.base HC.out.size).keepC HB9'.out HC3.out⟩
            case measure => simp [intOf]
          · go_simp
            have hx3 := al_new (w := V2) (o := .cells #[.slice none 0 0, .slice none 0 0] 36) rfl
            have hA3 := Chg.alloc [] V2 (.cells #[.slice none 0 0, .slice none 0 0] 36)
            have hS3 := hA3.heap hS2 (by simp)
            have hgx : wb.heap.size ≤ V2.heap.size := ((hA1.trans hA2)).size
            refine hK.out _ _ hS3 ?_
            clear hK K
            generalize V2.alloc (.cells #[.slice none 0 0, .slice none 0 0] 36) = V3 at hx3 hA3 hS3 ⊢
            generalize V2.heap.size = gx at hx3 hgx ⊢
            show wpAnyH _ _ _ _ _ _ #[true, true, true, false, false, false, false, false, true, false, false, false] _ _
            refine held_one 3 rfl (by kernel_rfl) (by rfl) (fun K hK => ?_)
            go_simp
            refine (Add_to (d := wC 1) V3 ve vg (wC 0) (HOW.out.rdc.keep1 ((hA1.trans hA2).trans hA3)) ⟨#[65, 46, 71, 48, 48, 48, 51, 86, 48, 48]⟩ ⟨#[86, 49]⟩ 5 0 (w_add 0 (by decide))).mono ?_
            rintro e V4 ⟨ue, ug, ur, rfl, hoc, hor, hA4⟩
            obtain ⟨ua, uc, rfl⟩ := (RdK.of_own hoc.1).shape
            obtain ⟨va, vc, rfl⟩ := (RdK.of_own hoc.2).shape
            replace hoc := hoc.base (((hA1.trans hA2).trans hA3).size)
            replace hor := ownK_base hor (((hA1.trans hA2).trans hA3).size)
            have hx4 := hA4.heap hx3 (by simp)
            have hS4 := hA4.heap hS3 (by simp)
            refine hK.out _ _ hS4 ?_
            clear hK K
            show wpAnyH _ _ _ _ _ _ #[true, true, true, true, false, false, false, false, true, false, false, false] _ _
            refine held_take' 4 94 (listed' := #[true, true, true, true, true, false, false, false, true, false, false, false]) (v := ?v9) (t' := ?t9) rfl rfl (by kernel_rfl) (by rfl) ?hv9 (fun _ _ _ h => h) hS4 rfl ?ht9 ?rest9; (case hv9 => (intro W' hW'; obtain ⟨q0, q1⟩ := two_cells hW'; go_simp; try with_reducible rfl)); case ht9 => (simp only [List.setIfInBounds_toArray, List.set_cons_zero, List.set_cons_succ]; with_reducible rfl)
            refine held_take' 5 99 (listed' := #[true, true, true, true, true, true, false, false, true, false, false, false]) (v := ?v10) (t' := ?t10) rfl rfl (by kernel_rfl) (by rfl) ?hv10 (fun _ _ _ h => h) hS4 rfl ?ht10 ?rest10; (case hv10 => (intro W' hW'; obtain ⟨q0, q1⟩ := two_cells hW'; go_simp; try with_reducible rfl)); case ht10 => (simp only [List.setIfInBounds_toArray, List.set_cons_zero, List.set_cons_succ]; with_reducible rfl)
            refine held_take' 6 100 (listed' := #[true, true, true, true, true, true, true, false, true, false, false, false]) (v := ?v11) (t' := ?t11) rfl rfl (by kernel_rfl) (by rfl) ?hv11 (fun _ _ _ h => h) hS4 rfl ?ht11 ?rest11; (case hv11 => (intro W' hW'; obtain ⟨q0, q1⟩ := two_cells hW'; go_simp; try with_reducible rfl)); case ht11 => (simp only [List.setIfInBounds_toArray, List.set_cons_zero, List.set_cons_succ]; with_reducible rfl)
            refine held_take' 7 101 (listed' := #[true, true, true, true, true, true, true, true, true, false, false, false]) (v := ?v12) (t' := ?t12) rfl rfl (by kernel_rfl) (by rfl) ?hv12 (fun _ _ _ h => h) hS4 rfl ?ht12 ?rest12; (case hv12 => (intro W' hW'; obtain ⟨q0, q1⟩ := two_cells hW'; go_simp; try with_reducible rfl)); case ht12 => (simp only [List.setIfInBounds_toArray, List.set_cons_zero, List.set_cons_succ]; with_reducible rfl)
            refine held_one 9 rfl (by kernel_rfl) (by rfl) (fun K hK => ?_)
            obtain ⟨r0, r1, f0, f1, HR2, HC2⟩ := store2 (.slice ua (wC 1).es.length uc) (.slice va (wC 1).gs.length vc) hx4
            have hR2 := HR2.out
            have hC2 := HC2.out
            clear HR2 HC2
            have hoc2 := hoc.keepC hx4 hC2
            have hor2 := ownK_keep hor hC2 (own_ne hor hx4 (by decide))
            have hS5 := hC2.heap hS4 (by rw [List.mem_singleton]; have := lt_of_block HB8.out; omega)
            have hcx : Chg [] wb _ := (((hA1.trans hA2).trans hA3).trans hA4).then hC2 (by intro j hj hlt; rw [List.mem_singleton] at hj; omega)
            obtain ⟨V5, hV5⟩ : ∃ W', (V4.setCell ⟨gx, 0, none⟩ (.slice ua (wC 1).es.length uc)).setCell ⟨gx, 1, none⟩ (.slice va (wC 1).gs.length vc) = W' := ⟨_, rfl⟩
            rw [hV5] at hR2 hoc2 hor2 hS5 hcx
            clear hC2
            go_simp
            try rw [hV5]
            clear hV5
            refine hK.out _ _ hS5 ?_
            clear hK K
            show wpAnyH _ _ _ _ _ _ #[true, true, true, true, true, true, true, true, true, true, false, false] _ _
            refine held_take' 10 13 (listed' := #[true, true, true, true, true, true, true, true, true, true, true, false]) (v := ?v13) (t' := ?t13) rfl rfl (by kernel_rfl) (by rfl) ?hv13 (fun _ _ _ h => h) hS5 rfl ?ht13 ?rest13; (case hv13 => (intro W' hW'; obtain ⟨q0, q1⟩ := two_cells hW'; go_simp; try with_reducible rfl)); case ht13 => (simp only [List.setIfInBounds_toArray, List.set_cons_zero, List.set_cons_succ]; with_reducible rfl)
            refine held_take' 11 14 (listed' := #[true, true, true, true, true, true, true, true, true, true, true, true]) (v := ?v14) (t' := ?t14) rfl rfl (by kernel_rfl) (by rfl) ?hv14 (fun _ _ _ h => h) hS5 rfl ?ht14 ?rest14; (case hv14 => (intro W' hW'; obtain ⟨q0, q1⟩ := two_cells hW'; go_simp; try with_reducible rfl)); case ht14 => (simp only [List.setIfInBounds_toArray, List.set_cons_zero, List.set_cons_succ]; with_reducible rfl)
            refine wpAnyH_done (by kernel_rfl) ?_ _
            obtain ⟨wl, hwl⟩ : ∃ W', V5 = W' := ⟨_, rfl⟩
            rw [hwl] at hR2 hoc2 hor2 hS5 hcx ⊢
            have HB9 := hid hS5
            have HR2 := hid hR2
            have HOC := hid hoc2
            have HOR := hid hor2
            have HCX := hid hcx
            have HNX : Hid (¬ gx = b8) := hid (by have := lt_of_block HB8.out; omega)
            clear hoc hor hoc2 hor2 hR2 hcx hS5 hx4 r0 r1 f0 f1 hgx hwl
            obtain ⟨x0, x1⟩ := two_cells HR2.out
            obtain ⟨z0, z1⟩ := two_cells HB9.out
            obtain ⟨ra, rc, rfl⟩ := (RdK.of_own HOR.out).shape
            rw [show (wR 0).length = 0 from rfl]
            go_wp2_with (fail)
            refine wp_region_later (by kernel_rfl) (by kernel_rfl) (Chg.refl [] wl) ?_
            repeat (first | go_big_quiet_step (fail) | quiet_step (fail))
            refine wpQuiet_nil ?_
            rintro wq ⟨⟨_, hcq⟩, rfl⟩
            have HB9' := hid (hcq.heap HB9.out (by simp))
            have HR2' := hid (hcq.heap HR2.out (by simp))
            obtain ⟨x0, x1⟩ := two_cells HR2'.out
            obtain ⟨r0, r1, f0, f1, -, -⟩ := store2 (.slice ua (wC 1).es.length uc) (.slice va (wC 1).gs.length vc) HB9'.out
            have hnx : ¬ gx = b8 := HNX.out
            have hnx' : ¬ b8 = gx := fun h => HNX.out h.symm
            go_wp2_with (fail)
            obtain ⟨-, -, -, -, HR3, HC3⟩ := store2 (.slice ua (wC 1).es.length uc) (.slice va (wC 1).gs.length vc) HB9'.out
            go_roundw
            case rel => exact ⟨1, by omega, by rfl, ((HC.out.trans HCX.out).trans hcq).then HC3.out (by intro j hj hlt; rw [List.mem_singleton] at hj; omega), _, _, HR3.out, (HOC.out.keep1 hcq |>.base HC.out.size).keepC HB9'.out HC3.out⟩
            case measure => simp [intOf]
        · go_simp
          have hx2 := al_new (w := V1) (o := .cells #[.slice none 0 0, .slice none 0 0] 36) rfl
          have hA2 := Chg.alloc [] V1 (.cells #[.slice none 0 0, .slice none 0 0] 36)
          have hS2 := hA2.heap hS1 (by simp)
          have hgx : wb.heap.size ≤ V1.heap.size := (hA1).size
          refine hK.out _ _ hS2 ?_
          clear hK K
          generalize V1.alloc (.cells #[.slice none 0 0, .slice none 0 0] 36) = V2 at hx2 hA2 hS2 ⊢
          generalize V1.heap.size = gx at hx2 hgx ⊢
          show wpAnyH _ _ _ _ _ _ #[true, true, false, false, false, false, false, false, true, false, false, false] _ _
          refine held_one 2 rfl (by kernel_rfl) (by rfl) (fun K hK => ?_)
          go_simp
          refine (disk_any V2 ⟨#[65, 46, 71, 48, 48, 48, 51, 86, 48, 48]⟩).mono ?_
          rintro e V3 ⟨rfl, hA3⟩
          have hx3 := hA3.heap hx2 (by simp)
          have hS3 := hA3.heap hS2 (by simp)
          refine hK.out _ _ hS3 ?_
          clear hK K
          show wpAnyH _ _ _ _ _ _ #[true, true, true, false, false, false, false, false, true, false, false, false] _ _
          refine held_one 3 rfl (by kernel_rfl) (by rfl) (fun K hK => ?_)
          go_simp
          refine (Add_to (d := wC 1) V3 ve vg (wC 0) (HOW.out.rdc.keep1 ((hA1.trans hA2).trans hA3)) ⟨#[65, 46, 71, 48, 48, 48, 51, 86, 48, 48]⟩ ⟨#[86, 49]⟩ 5 0 (w_add 0 (by decide))).mono ?_
          rintro e V4 ⟨ue, ug, ur, rfl, hoc, hor, hA4⟩
          obtain ⟨ua, uc, rfl⟩ := (RdK.of_own hoc.1).shape
          obtain ⟨va, vc, rfl⟩ := (RdK.of_own hoc.2).shape
          replace hoc := hoc.base (((hA1.trans hA2).trans hA3).size)
          replace hor := ownK_base hor (((hA1.trans hA2).trans hA3).size)
          have hx4 := hA4.heap hx3 (by simp)
          have hS4 := hA4.heap hS3 (by simp)
          refine hK.out _ _ hS4 ?_
          clear hK K
          show wpAnyH _ _ _ _ _ _ #[true, true, true, true, false, false, false, false, true, false, false, false] _ _
          refine held_take' 4 94 (listed' := #[true, true, true, true, true, false, false, false, true, false, false, false]) (v := ?v15) (t' := ?t15) rfl rfl (by kernel_rfl) (by rfl) ?hv15 (fun _ _ _ h => h) hS4 rfl ?ht15 ?rest15; (case hv15 => (intro W' hW'; obtain ⟨q0, q1⟩ := two_cells hW'; go_simp; try with_reducible rfl)); case ht15 => (simp only [List.setIfInBounds_toArray, List.set_cons_zero, List.set_cons_succ]; with_reducible rfl)
          refine held_take' 5 99 (listed' := #[true, true, true, true, true, true, false, false, true, false, false, false]) (v := ?v16) (t' := ?t16) rfl rfl (by kernel_rfl) (by rfl) ?hv16 (fun _ _ _ h => h) hS4 rfl ?ht16 ?rest16; (case hv16 => (intro W' hW'; obtain ⟨q0, q1⟩ := two_cells hW'; go_simp; try with_reducible rfl)); case ht16 => (simp only [List.setIfInBounds_toArray, List.set_cons_zero, List.set_cons_succ]; with_reducible rfl)
          refine held_take' 6 100 (listed' := #[true, true, true, true, true, true, true, false, true, false, false, false]) (v := ?v17) (t' := ?t17) rfl rfl (by kernel_rfl) (by rfl) ?hv17 (fun _ _ _ h => h) hS4 rfl ?ht17 ?rest17; (case hv17 => (intro W' hW'; obtain ⟨q0, q1⟩ := two_cells hW'; go_simp; try with_reducible rfl)); case ht17 => (simp only [List.setIfInBounds_toArray, List.set_cons_zero, List.set_cons_succ]; with_reducible rfl)
          refine held_take' 7 101 (listed' := #[true, true, true, true, true, true, true, true, true, false, false, false]) (v := ?v18) (t' := ?t18) rfl rfl (by kernel_rfl) (by rfl) ?hv18 (fun _ _ _ h => h) hS4 rfl ?ht18 ?rest18; (case hv18 => (intro W' hW'; obtain ⟨q0, q1⟩ := two_cells hW'; go_simp; try with_reducible rfl)); case ht18 => (simp only [List.setIfInBounds_toArray, List.set_cons_zero, List.set_cons_succ]; with_reducible rfl)
          refine held_one 9 rfl (by kernel_rfl) (by rfl) (fun K hK => ?_)
          obtain ⟨r0, r1, f0, f1, HR2, HC2⟩ := store2 (.slice ua (wC 1).es.length uc) (.slice va (wC 1).gs.length vc) hx4
          have hR2 := HR2.out
          have hC2 := HC2.out
          clear HR2 HC2
          have hoc2 := hoc.keepC hx4 hC2
          have hor2 := ownK_keep hor hC2 (own_ne hor hx4 (by decide))
          have hS5 := hC2.heap hS4 (by rw [List.mem_singleton]; have := lt_of_block HB8.out; omega)
          have hcx : Chg [] wb _ := (((hA1.trans hA2).trans hA3).trans hA4).then hC2 (by intro j hj hlt; rw [List.mem_singleton] at hj; omega)
          obtain ⟨V5, hV5⟩ : ∃ W', (V4.setCell ⟨gx, 0, none⟩ (.slice ua (wC 1).es.length uc)).setCell ⟨gx, 1, none⟩ (.slice va (wC 1).gs.length vc) = W' := ⟨_, rfl⟩
          rw [hV5] at hR2 hoc2 hor2 hS5 hcx
          clear hC2
          go_simp
          try rw [hV5]
          clear hV5
          refine hK.out _ _ hS5 ?_
          clear hK K
          show wpAnyH _ _ _ _ _ _ #[true, true, true, true, true, true, true, true, true, true, false, false] _ _
          refine held_take' 10 13 (listed' := #[true, true, true, true, true, true, true, true, true, true, true, false]) (v := ?v19) (t' := ?t19) rfl rfl (by kernel_rfl) (by rfl) ?hv19 (fun _ _ _ h => h) hS5 rfl ?ht19 ?rest19; (case hv19 => (intro W' hW'; obtain ⟨q0, q1⟩ := two_cells hW'; go_simp; try with_reducible rfl)); case ht19 => (simp only [List.setIfInBounds_toArray, List.set_cons_zero, List.set_cons_succ]; with_reducible rfl)
          refine held_take' 11 14 (listed' := #[true, true, true, true, true, true, true, true, true, true, true, true]) (v := ?v20) (t' := ?t20) rfl rfl (by kernel_rfl) (by rfl) ?hv20 (fun _ _ _ h => h) hS5 rfl ?ht20 ?rest20; (case hv20 => (intro W' hW'; obtain ⟨q0, q1⟩ := two_cells hW'; go_simp; try with_reducible rfl)); case ht20 => (simp only [List.setIfInBounds_toArray, List.set_cons_zero, List.set_cons_succ]; with_reducible rfl)
          refine wpAnyH_done (by kernel_rfl) ?_ _
          obtain ⟨wl, hwl⟩ : ∃ W', V5 = W' := ⟨_, rfl⟩
          rw [hwl] at hR2 hoc2 hor2 hS5 hcx ⊢
          have HB9 := hid hS5
          have HR2 := hid hR2
          have HOC := hid hoc2
          have HOR := hid hor2
          have HCX := hid hcx
          have HNX : Hid (¬ gx = b8) := hid (by have := lt_of_block HB8.out; omega)
          clear hoc hor hoc2 hor2 hR2 hcx hS5 hx4 r0 r1 f0 f1 hgx hwl
          obtain ⟨x0, x1⟩ := two_cells HR2.out
          obtain ⟨z0, z1⟩ := two_cells HB9.out
          obtain ⟨ra, rc, rfl⟩ := (RdK.of_own HOR.out).shape
          rw [show (wR 0).length = 0 from rfl]
          go_wp2_with (fail)
          refine wp_region_later (by kernel_rfl) (by kernel_rfl) (Chg.refl [] wl) ?_
          repeat (first | go_big_quiet_step (fail) | quiet_step (fail))
          refine wpQuiet_nil ?_
          rintro wq ⟨⟨_, hcq⟩, rfl⟩
          have HB9' := hid (hcq.heap HB9.out (by simp))
          have HR2' := hid (hcq.heap HR2.out (by simp))
          obtain ⟨x0, x1⟩ := two_cells HR2'.out
          obtain ⟨r0, r1, f0, f1, -, -⟩ := store2 (.slice ua (wC 1).es.length uc) (.slice va (wC 1).gs.length vc) HB9'.out
          have hnx : ¬ gx = b8 := HNX.out
          have hnx' : ¬ b8 = gx := fun h => HNX.out h.symm
          go_wp2_with (fail)
          obtain ⟨-, -, -, -, HR3, HC3⟩ := store2 (.slice ua (wC 1).es.length uc) (.slice va (wC 1).gs.length vc) HB9'.out
          go_roundw
          case rel => exact ⟨1, by omega, by rfl, ((HC.out.trans HCX.out).trans hcq).then HC3.out (by intro j hj hlt; rw [List.mem_singleton] at hj; omega), _, _, HR3.out, (HOC.out.keep1 hcq |>.base HC.out.size).keepC HB9'.out HC3.out⟩
          case measure => simp [intOf]
    by_cases hk1 : k = 1
    · as_aux_lemma =>
        subst hk1
        have HB8 := hid hb8
        have HOW := hid how
        have HC := hid hc
        clear hb8 how hc
        obtain ⟨wb, hwb'⟩ : ∃ W', wr = W' := ⟨_, rfl⟩
        rw [hwb'] at HB8 HOW HC ⊢
        clear hwb'
        go_wp2_with (fail)
        refine region_held (S := fun w' => w'.heap[b8]? = some (.cells #[ve, vg] 36 (0, 0))) (by kernel_rfl) (n := 12) rfl (l := #[false, false, false, false, false, false, false, false, false, false, false, false]) rfl ?_
        obtain ⟨V1, hE1⟩ : ∃ W', wb.drew = W' := ⟨_, rfl⟩
        rw [hE1]
        have hA1 : Chg [] wb V1 := by rw [← hE1]; exact Chg.drew [] _
        have hS1 := hA1.heap HB8.out (by simp)
        clear hE1
        refine held_take' 0 95 (listed' := #[true, false, false, false, false, false, false, false, false, false, false, false]) (v := ?v21) (t' := ?t21) rfl rfl (by kernel_rfl) (by rfl) ?hv21 (fun _ _ _ h => h) hS1 rfl ?ht21 ?rest21; (case hv21 => (intro W' hW'; obtain ⟨q0, q1⟩ := two_cells hW'; go_simp; try with_reducible rfl)); case ht21 => (simp only [List.setIfInBounds_toArray, List.set_cons_zero, List.set_cons_succ]; with_reducible rfl)
        refine held_take' 1 96 (listed' := #[true, true, false, false, false, false, false, false, false, false, false, false]) (v := ?v22) (t' := ?t22) rfl rfl (by kernel_rfl) (by rfl) ?hv22 (fun _ _ _ h => h) hS1 rfl ?ht22 ?rest22; (case hv22 => (intro W' hW'; obtain ⟨q0, q1⟩ := two_cells hW'; go_simp; try with_reducible rfl)); case ht22 => (simp only [List.setIfInBounds_toArray, List.set_cons_zero, List.set_cons_succ]; with_reducible rfl)
        refine held_two 2 8 rfl rfl (by kernel_rfl) (by rfl) (by rfl) (fun K hK => ?_) (fun K hK => ?_)
        · go_simp
          refine (disk_any V1 ⟨#[65, 46, 71, 48, 48, 48, 52, 86, 48, 48]⟩).mono ?_
          rintro e V2 ⟨rfl, hA2⟩
          have hS2 := hA2.heap hS1 (by simp)
          refine hK.out _ _ hS2 ?_
          clear hK K
          show wpAnyH _ _ _ _ _ _ #[true, true, true, false, false, false, false, false, false, false, false, false] _ _
          refine held_two 3 8 rfl rfl (by kernel_rfl) (by rfl) (by rfl) (fun K hK => ?_) (fun K hK => ?_)
          · go_simp
            refine (Add_to (d := wC 2) V2 ve vg (wC 1) (HOW.out.rdc.keep1 (hA1.trans hA2)) ⟨#[65, 46, 71, 48, 48, 48, 52, 86, 48, 48]⟩ ⟨#[86, 49]⟩ 5 0 (w_add 1 (by decide))).mono ?_
            rintro e V3 ⟨ue, ug, ur, rfl, hoc, hor, hA3⟩
            obtain ⟨ua, uc, rfl⟩ := (RdK.of_own hoc.1).shape
            obtain ⟨va, vc, rfl⟩ := (RdK.of_own hoc.2).shape
            replace hoc := hoc.base ((hA1.trans hA2).size)
            replace hor := ownK_base hor ((hA1.trans hA2).size)
            have hS3 := hA3.heap hS2 (by simp)
            refine hK.out _ _ hS3 ?_
            clear hK K
            show wpAnyH _ _ _ _ _ _ #[true, true, true, true, false, false, false, false, false, false, false, false] _ _
            refine held_take' 4 94 (listed' := #[true, true, true, true, true, false, false, false, false, false, false, false]) (v := ?v23) (t' := ?t23) rfl rfl (by kernel_rfl) (by rfl) ?hv23 (fun _ _ _ h => h) hS3 rfl ?ht23 ?rest23; (case hv23 => (intro W' hW'; obtain ⟨q0, q1⟩ := two_cells hW'; go_simp; try with_reducible rfl)); case ht23 => (simp only [List.setIfInBounds_toArray, List.set_cons_zero, List.set_cons_succ]; with_reducible rfl)
            refine held_take' 5 99 (listed' := #[true, true, true, true, true, true, false, false, false, false, false, false]) (v := ?v24) (t' := ?t24) rfl rfl (by kernel_rfl) (by rfl) ?hv24 (fun _ _ _ h => h) hS3 rfl ?ht24 ?rest24; (case hv24 => (intro W' hW'; obtain ⟨q0, q1⟩ := two_cells hW'; go_simp; try with_reducible rfl)); case ht24 => (simp only [List.setIfInBounds_toArray, List.set_cons_zero, List.set_cons_succ]; with_reducible rfl)
            refine held_take' 6 100 (listed' := #[true, true, true, true, true, true, true, false, false, false, false, false]) (v := ?v25) (t' := ?t25) rfl rfl (by kernel_rfl) (by rfl) ?hv25 (fun _ _ _ h => h) hS3 rfl ?ht25 ?rest25; (case hv25 => (intro W' hW'; obtain ⟨q0, q1⟩ := two_cells hW'; go_simp; try with_reducible rfl)); case ht25 => (simp only [List.setIfInBounds_toArray, List.set_cons_zero, List.set_cons_succ]; with_reducible rfl)
            refine held_take' 7 101 (listed' := #[true, true, true, true, true, true, true, true, false, false, false, false]) (v := ?v26) (t' := ?t26) rfl rfl (by kernel_rfl) (by rfl) ?hv26 (fun _ _ _ h => h) hS3 rfl ?ht26 ?rest26; (case hv26 => (intro W' hW'; obtain ⟨q0, q1⟩ := two_cells hW'; go_simp; try with_reducible rfl)); case ht26 => (simp only [List.setIfInBounds_toArray, List.set_cons_zero, List.set_cons_succ]; with_reducible rfl)
            refine held_one 8 rfl (by kernel_rfl) (by rfl) (fun K hK => ?_)
            go_simp
            have hx4 := al_new (w := V3) (o := .cells #[.slice none 0 0, .slice none 0 0] 36) rfl
            have hA4 := Chg.alloc [] V3 (.cells #[.slice none 0 0, .slice none 0 0] 36)
            have hS4 := hA4.heap hS3 (by simp)
            have hgx : wb.heap.size ≤ V3.heap.size := (((hA1.trans hA2).trans hA3)).size
            refine hK.out _ _ hS4 ?_
            clear hK K
            generalize V3.alloc (.cells #[.slice none 0 0, .slice none 0 0] 36) = V4 at hx4 hA4 hS4 ⊢
            generalize V3.heap.size = gx at hx4 hgx ⊢
            replace hoc := hoc.keep1 hA4
            replace hor := ownK_keep1 hor hA4
            show wpAnyH _ _ _ _ _ _ #[true, true, true, true, true, true, true, true, true, false, false, false] _ _
            refine held_one 9 rfl (by kernel_rfl) (by rfl) (fun K hK => ?_)
            obtain ⟨r0, r1, f0, f1, HR2, HC2⟩ := store2 (.slice ua (wC 2).es.length uc) (.slice va (wC 2).gs.length vc) hx4
            have hR2 := HR2.out
            have hC2 := HC2.out
            clear HR2 HC2
            have hoc2 := hoc.keepC hx4 hC2
            have hor2 := ownK_keep hor hC2 (own_ne hor hx4 (by decide))
            have hS5 := hC2.heap hS4 (by rw [List.mem_singleton]; have := lt_of_block HB8.out; omega)
            have hcx : Chg [] wb _ := (((hA1.trans hA2).trans hA3).trans hA4).then hC2 (by intro j hj hlt; rw [List.mem_singleton] at hj; omega)
            obtain ⟨V5, hV5⟩ : ∃ W', (V4.setCell ⟨gx, 0, none⟩ (.slice ua (wC 2).es.length uc)).setCell ⟨gx, 1, none⟩ (.slice va (wC 2).gs.length vc) = W' := ⟨_, rfl⟩
            rw [hV5] at hR2 hoc2 hor2 hS5 hcx
            clear hC2
            go_simp
            try rw [hV5]
            clear hV5
            refine hK.out _ _ hS5 ?_
            clear hK K
            show wpAnyH _ _ _ _ _ _ #[true, true, true, true, true, true, true, true, true, true, false, false] _ _
            refine held_take' 10 13 (listed' := #[true, true, true, true, true, true, true, true, true, true, true, false]) (v := ?v27) (t' := ?t27) rfl rfl (by kernel_rfl) (by rfl) ?hv27 (fun _ _ _ h => h) hS5 rfl ?ht27 ?rest27; (case hv27 => (intro W' hW'; obtain ⟨q0, q1⟩ := two_cells hW'; go_simp; try with_reducible rfl)); case ht27 => (simp only [List.setIfInBounds_toArray, List.set_cons_zero, List.set_cons_succ]; with_reducible rfl)
            refine held_take' 11 14 (listed' := #[true, true, true, true, true, true, true, true, true, true, true, true]) (v := ?v28) (t' := ?t28) rfl rfl (by kernel_rfl) (by rfl) ?hv28 (fun _ _ _ h => h) hS5 rfl ?ht28 ?rest28; (case hv28 => (intro W' hW'; obtain ⟨q0, q1⟩ := two_cells hW'; go_simp; try with_reducible rfl)); case ht28 => (simp only [List.setIfInBounds_toArray, List.set_cons_zero, List.set_cons_succ]; with_reducible rfl)
            refine wpAnyH_done (by kernel_rfl) ?_ _
            obtain ⟨wl, hwl⟩ : ∃ W', V5 = W' := ⟨_, rfl⟩
            rw [hwl] at hR2 hoc2 hor2 hS5 hcx ⊢
            have HB9 := hid hS5
            have HR2 := hid hR2
            have HOC := hid hoc2
            have HOR := hid hor2
            have HCX := hid hcx
            have HNX : Hid (¬ gx = b8) := hid (by have := lt_of_block HB8.out; omega)
            clear hoc hor hoc2 hor2 hR2 hcx hS5 hx4 r0 r1 f0 f1 hgx hwl
            obtain ⟨x0, x1⟩ := two_cells HR2.out
            obtain ⟨z0, z1⟩ := two_cells HB9.out
            obtain ⟨ra, rc, rfl⟩ := (RdK.of_own HOR.out).shape
            rw [show (wR 1).length = 0 from rfl]
            go_wp2_with (fail)
            refine wp_region_later (by kernel_rfl) (by kernel_rfl) (Chg.refl [] wl) ?_
            repeat (first | go_big_quiet_step (fail) | quiet_step (fail))
            refine wpQuiet_nil ?_
            rintro wq ⟨⟨_, hcq⟩, rfl⟩
            have HB9' := hid (hcq.heap HB9.out (by simp))
            have HR2' := hid (hcq.heap HR2.out (by simp))
            obtain ⟨x0, x1⟩ := two_cells HR2'.out
            obtain ⟨r0, r1, f0, f1, -, -⟩ := store2 (.slice ua (wC 2).es.length uc) (.slice va (wC 2).gs.length vc) HB9'.out
            have hnx : ¬ gx = b8 := HNX.out
            have hnx' : ¬ b8 = gx := fun h => HNX.out h.symm
            go_wp2_with (fail)
            obtain ⟨-, -, -, -, HR3, HC3⟩ := store2 (.slice ua (wC 2).es.length uc) (.slice va (wC 2).gs.length vc) HB9'.out
            go_roundw
            case rel => exact ⟨2, by omega, by rfl, ((HC.out.trans HCX.out).trans hcq).then HC3.out (by intro j hj hlt; rw [List.mem_singleton] at hj; omega), _, _, HR3.out, (HOC.out.keep1 hcq |>.base HC.out.size).keepC HB9'.out HC3.out⟩
            case measure => simp [intOf]
          · go_simp
            have hx3 := al_new (w := V2) (o := .cells #[.slice none 0 0, .slice none 0 0] 36) rfl
            have hA3 := Chg.alloc [] V2 (.cells #[.slice none 0 0, .slice none 0 0] 36)
            have hS3 := hA3.heap hS2 (by simp)
            have hgx : wb.heap.size ≤ V2.heap.size := ((hA1.trans hA2)).size
            refine hK.out _ _ hS3 ?_
            clear hK K
            generalize V2.alloc (.cells #[.slice none 0 0, .slice none 0 0] 36) = V3 at hx3 hA3 hS3 ⊢
            generalize V2.heap.size = gx at hx3 hgx ⊢
            show wpAnyH _ _ _ _ _ _ #[true, true, true, false, false, false, false, false, true, false, false, false] _ _
            refine held_one 3 rfl (by kernel_rfl) (by rfl) (fun K hK => ?_)
            go_simp
            refine (Add_to (d := wC 2) V3 ve vg (wC 1) (HOW.out.rdc.keep1 ((hA1.trans hA2).trans hA3)) ⟨#[65, 46, 71, 48, 48, 48, 52, 86, 48, 48]⟩ ⟨#[86, 49]⟩ 5 0 (w_add 1 (by decide))).mono ?_
            rintro e V4 ⟨ue, ug, ur, rfl, hoc, hor, hA4⟩
            obtain ⟨ua, uc, rfl⟩ := (RdK.of_own hoc.1).shape
            obtain ⟨va, vc, rfl⟩ := (RdK.of_own hoc.2).shape
            replace hoc := hoc.base (((hA1.trans hA2).trans hA3).size)
            replace hor := ownK_base hor (((hA1.trans hA2).trans hA3).size)
            have hx4 := hA4.heap hx3 (by simp)
            have hS4 := hA4.heap hS3 (by simp)
            refine hK.out _ _ hS4 ?_
            clear hK K
            show wpAnyH _ _ _ _ _ _ #[true, true, true, true, false, false, false, false, true, false, false, false] _ _
            refine held_take' 4 94 (listed' := #[true, true, true, true, true, false, false, false, true, false, false, false]) (v := ?v29) (t' := ?t29) rfl rfl (by kernel_rfl) (by rfl) ?hv29 (fun _ _ _ h => h) hS4 rfl ?ht29 ?rest29; (case hv29 => (intro W' hW'; obtain ⟨q0, q1⟩ := two_cells hW'; go_simp; try with_reducible rfl)); case ht29 => (simp only [List.setIfInBounds_toArray, List.set_cons_zero, List.set_cons_succ]; with_reducible rfl)
            refine held_take' 5 99 (listed' := #[true, true, true, true, true, true, false, false, true, false, false, false]) (v := ?v30) (t' := ?t30) rfl rfl (by kernel_rfl) (by rfl) ?hv30 (fun _ _ _ h => h) hS4 rfl ?ht30 ?rest30; (case hv30 => (intro W' hW'; obtain ⟨q0, q1⟩ := two_cells hW'; go_simp; try with_reducible rfl)); case ht30 => (simp only [List.setIfInBounds_toArray, List.set_cons_zero, List.set_cons_succ]; with_reducible rfl)
            refine held_take' 6 100 (listed' := #[true, true, true, true, true, true, true, false, true, false, false, false]) (v := ?v31) (t' := ?t31) rfl rfl (by kernel_rfl) (by rfl) ?hv31 (fun _ _ _ h => h) hS4 rfl ?ht31 ?rest31; (case hv31 => (intro W' hW'; obtain ⟨q0, q1⟩ := two_cells hW'; go_simp; try with_reducible rfl)); case ht31 => (simp only [List.setIfInBounds_toArray, List.set_cons_zero, List.set_cons_succ]; with_reducible rfl)
            refine held_take' 7 101 (listed' := #[true, true, true, true, true, true, true, true, true, false, false, false]) (v := ?v32) (t' := ?t32) rfl rfl (by kernel_rfl) (by rfl) ?hv32 (fun _ _ _ h => h) hS4 rfl ?ht32 ?rest32; (case hv32 => (intro W' hW'; obtain ⟨q0, q1⟩ := two_cells hW'; go_simp; try with_reducible rfl)); case ht32 => (simp only [List.setIfInBounds_toArray, List.set_cons_zero, List.set_cons_succ]; with_reducible rfl)
            refine held_one 9 rfl (by kernel_rfl) (by rfl) (fun K hK => ?_)
            obtain ⟨r0, r1, f0, f1, HR2, HC2⟩ := store2 (.slice ua (wC 2).es.length uc) (.slice va (wC 2).gs.length vc) hx4
            have hR2 := HR2.out
            have hC2 := HC2.out
            clear HR2 HC2
            have hoc2 := hoc.keepC hx4 hC2
            have hor2 := ownK_keep hor hC2 (own_ne hor hx4 (by decide))
            have hS5 := hC2.heap hS4 (by rw [List.mem_singleton]; have := lt_of_block HB8.out; omega)
            have hcx : Chg [] wb _ := (((hA1.trans hA2).trans hA3).trans hA4).then hC2 (by intro j hj hlt; rw [List.mem_singleton] at hj; omega)
            obtain ⟨V5, hV5⟩ : ∃ W', (V4.setCell ⟨gx, 0, none⟩ (.slice ua (wC 2).es.length uc)).setCell ⟨gx, 1, none⟩ (.slice va (wC 2).gs.length vc) = W' := ⟨_, rfl⟩
            rw [hV5] at hR2 hoc2 hor2 hS5 hcx
            clear hC2
            go_simp
            try rw [hV5]
            clear hV5
            refine hK.out _ _ hS5 ?_
            clear hK K
            show wpAnyH _ _ _ _ _ _ #[true, true, true, true, true, true, true, true, true, true, false, false] _ _
            refine held_take' 10 13 (listed' := #[true, true, true, true, true, true, true, true, true, true, true, false]) (v := ?v33) (t' := ?t33) rfl rfl (by kernel_rfl) (by rfl) ?hv33 (fun _ _ _ h => h) hS5 rfl ?ht33 ?rest33; (case hv33 => (intro W' hW'; obtain ⟨q0, q1⟩ := two_cells hW'; go_simp; try with_reducible rfl)); case ht33 => (simp only [List.setIfInBounds_toArray, List.set_cons_zero, List.set_cons_succ]; with_reducible rfl)
            refine held_take' 11 14 (listed' := #[true, true, true, true, true, true, true, true, true, true, true, true]) (v := ?v34) (t' := ?t34) rfl rfl (by kernel_rfl) (by rfl) ?hv34 (fun _ _ _ h => h) hS5 rfl ?ht34 ?rest34; (case hv34 => (intro W' hW'; obtain ⟨q0, q1⟩ := two_cells hW'; go_simp; try with_reducible rfl)); case ht34 => (simp only [List.setIfInBounds_toArray, List.set_cons_zero, List.set_cons_succ]; with_reducible rfl)
            refine wpAnyH_done (by kernel_rfl) ?_ _
            obtain ⟨wl, hwl⟩ : ∃ W', V5 = W' := ⟨_, rfl⟩
            rw [hwl] at hR2 hoc2 hor2 hS5 hcx ⊢
            have HB9 := hid hS5
            have HR2 := hid hR2
            have HOC := hid hoc2
            have HOR := hid hor2
            have HCX := hid hcx
            have HNX : Hid (¬ gx = b8) := hid (by have := lt_of_block HB8.out; omega)
            clear hoc hor hoc2 hor2 hR2 hcx hS5 hx4 r0 r1 f0 f1 hgx hwl
            obtain ⟨x0, x1⟩ := two_cells HR2.out
            obtain ⟨z0, z1⟩ := two_cells HB9.out
            obtain ⟨ra, rc, rfl⟩ := (RdK.of_own HOR.out).shape
            rw [show (wR 1).length = 0 from rfl]
            go_wp2_with (fail)
            refine wp_region_later (by kernel_rfl) (by kernel_rfl) (Chg.refl [] wl) ?_
            repeat (first | go_big_quiet_step (fail) | quiet_step (fail))
            refine wpQuiet_nil ?_
            rintro wq ⟨⟨_, hcq⟩, rfl⟩
            have HB9' := hid (hcq.heap HB9.out (by simp))
            have HR2' := hid (hcq.heap HR2.out (by simp))
            obtain ⟨x0, x1⟩ := two_cells HR2'.out
            obtain ⟨r0, r1, f0, f1, -, -⟩ := store2 (.slice ua (wC 2).es.length uc) (.slice va (wC 2).gs.length vc) HB9'.out
            have hnx : ¬ gx = b8 := HNX.out
            have hnx' : ¬ b8 = gx := fun h => HNX.out h.symm
            go_wp2_with (fail)
            obtain ⟨-, -, -, -, HR3, HC3⟩ := store2 (.slice ua (wC 2).es.length uc) (.slice va (wC 2).gs.length vc) HB9'.out
            go_roundw
            case rel => exact ⟨2, by omega, by rfl, ((HC.out.trans HCX.out).trans hcq).then HC3.out (by intro j hj hlt; rw [List.mem_singleton] at hj; omega), _, _, HR3.out, (HOC.out.keep1 hcq |>.base HC.out.size).keepC HB9'.out HC3.out⟩
            case measure => simp [intOf]
        · go_simp
          have hx2 := al_new (w := V1) (o := .cells #[.slice none 0 0, .slice none 0 0] 36) rfl
          have hA2 := Chg.alloc [] V1 (.cells #[.slice none 0 0, .slice none 0 0] 36)
          have hS2 := hA2.heap hS1 (by simp)
          have hgx : wb.heap.size ≤ V1.heap.size := (hA1).size
          refine hK.out _ _ hS2 ?_
          clear hK K
          generalize V1.alloc (.cells #[.slice none 0 0, .slice none 0 0] 36) = V2 at hx2 hA2 hS2 ⊢
          generalize V1.heap.size = gx at hx2 hgx ⊢
          show wpAnyH _ _ _ _ _ _ #[true, true, false, false, false, false, false, false, true, false, false, false] _ _
          refine held_one 2 rfl (by kernel_rfl) (by rfl) (fun K hK => ?_)
          go_simp
          refine (disk_any V2 ⟨#[65, 46, 71, 48, 48, 48, 52, 86, 48, 48]⟩).mono ?_
          rintro e V3 ⟨rfl, hA3⟩
          have hx3 := hA3.heap hx2 (by simp)
          have hS3 := hA3.heap hS2 (by simp)
          refine hK.out _ _ hS3 ?_
          clear hK K
          show wpAnyH _ _ _ _ _ _ #[true, true, true, false, false, false, false, false, true, false, false, false] _ _
          refine held_one 3 rfl (by kernel_rfl) (by rfl) (fun K hK => ?_)
          go_simp
          refine (Add_to (d := wC 2) V3 ve vg (wC 1) (HOW.out.rdc.keep1 ((hA1.trans hA2).trans hA3)) ⟨#[65, 46, 71, 48, 48, 48, 52, 86, 48, 48]⟩ ⟨#[86, 49]⟩ 5 0 (w_add 1 (by decide))).mono ?_
          rintro e V4 ⟨ue, ug, ur, rfl, hoc, hor, hA4⟩
          obtain ⟨ua, uc, rfl⟩ := (RdK.of_own hoc.1).shape
          obtain ⟨va, vc, rfl⟩ := (RdK.of_own hoc.2).shape
          replace hoc := hoc.base (((hA1.trans hA2).trans hA3).size)
          replace hor := ownK_base hor (((hA1.trans hA2).trans hA3).size)
          have hx4 := hA4.heap hx3 (by simp)
          have hS4 := hA4.heap hS3 (by simp)
          refine hK.out _ _ hS4 ?_
          clear hK K
          show wpAnyH _ _ _ _ _ _ #[true, true, true, true, false, false, false, false, true, false, false, false] _ _
          refine held_take' 4 94 (listed' := #[true, true, true, true, true, false, false, false, true, false, false, false]) (v := ?v35) (t' := ?t35) rfl rfl (by kernel_rfl) (by rfl) ?hv35 (fun _ _ _ h => h) hS4 rfl ?ht35 ?rest35; (case hv35 => (intro W' hW'; obtain ⟨q0, q1⟩ := two_cells hW'; go_simp; try with_reducible rfl)); case ht35 => (simp only [List.setIfInBounds_toArray, List.set_cons_zero, List.set_cons_succ]; with_reducible rfl)
          refine held_take' 5 99 (listed' := #[true, true, true, true, true, true, false, false, true, false, false, false]) (v := ?v36) (t' := ?t36) rfl rfl (by kernel_rfl) (by rfl) ?hv36 (fun _ _ _ h => h) hS4 rfl ?ht36 ?rest36; (case hv36 => (intro W' hW'; obtain ⟨q0, q1⟩ := two_cells hW'; go_simp; try with_reducible rfl)); case ht36 => (simp only [List.setIfInBounds_toArray, List.set_cons_zero, List.set_cons_succ]; with_reducible rfl)
          refine held_take' 6 100 (listed' := #[true, true, true, true, true, true, true, false, true, false, false, false]) (v := ?v37) (t' := ?t37) rfl rfl (by kernel_rfl) (by rfl) ?hv37 (fun _ _ _ h => h) hS4 rfl ?ht37 ?rest37; (case hv37 => (intro W' hW'; obtain ⟨q0, q1⟩ := two_cells hW'; go_simp; try with_reducible rfl)); case ht37 => (simp only [List.setIfInBounds_toArray, List.set_cons_zero, List.set_cons_succ]; with_reducible rfl)
          refine held_take' 7 101 (listed' := #[true, true, true, true, true, true, true, true, true, false, false, false]) (v := ?v38) (t' := ?t38) rfl rfl (by kernel_rfl) (by rfl) ?hv38 (fun _ _ _ h => h) hS4 rfl ?ht38 ?rest38; (case hv38 => (intro W' hW'; obtain ⟨q0, q1⟩ := two_cells hW'; go_simp; try with_reducible rfl)); case ht38 => (simp only [List.setIfInBounds_toArray, List.set_cons_zero, List.set_cons_succ]; with_reducible rfl)
          refine held_one 9 rfl (by kernel_rfl) (by rfl) (fun K hK => ?_)
          obtain ⟨r0, r1, f0, f1, HR2, HC2⟩ := store2 (.slice ua (wC 2).es.length uc) (.slice va (wC 2).gs.length vc) hx4
          have hR2 := HR2.out
          have hC2 := HC2.out
          clear HR2 HC2
          have hoc2 := hoc.keepC hx4 hC2
          have hor2 := ownK_keep hor hC2 (own_ne hor hx4 (by decide))
          have hS5 := hC2.heap hS4 (by rw [List.mem_singleton]; have := lt_of_block HB8.out; omega)
          have hcx : Chg [] wb _ := (((hA1.trans hA2).trans hA3).trans hA4).then hC2 (by intro j hj hlt; rw [List.mem_singleton] at hj; omega)
          obtain ⟨V5, hV5⟩ : ∃ W', (V4.setCell ⟨gx, 0, none⟩ (.slice ua (wC 2).es.length uc)).setCell ⟨gx, 1, none⟩ (.slice va (wC 2).gs.length vc) = W' := ⟨_, rfl⟩
          rw [hV5] at hR2 hoc2 hor2 hS5 hcx
          clear hC2
          go_simp
          try rw [hV5]
          clear hV5
          refine hK.out _ _ hS5 ?_
          clear hK K
          show wpAnyH _ _ _ _ _ _ #[true, true, true, true, true, true, true, true, true, true, false, false] _ _
          refine held_take' 10 13 (listed' := #[true, true, true, true, true, true, true, true, true, true, true, false]) (v := ?v39) (t' := ?t39) rfl rfl (by kernel_rfl) (by rfl) ?hv39 (fun _ _ _ h => h) hS5 rfl ?ht39 ?rest39; (case hv39 => (intro W' hW'; obtain ⟨q0, q1⟩ := two_cells hW'; go_simp; try with_reducible rfl)); case ht39 => (simp only [List.setIfInBounds_toArray, List.set_cons_zero, List.set_cons_succ]; with_reducible rfl)
          refine held_take' 11 14 (listed' := #[true, true, true, true, true, true, true, true, true, true, true, true]) (v := ?v40) (t' := ?t40) rfl rfl (by kernel_rfl) (by rfl) ?hv40 (fun _ _ _ h => h) hS5 rfl ?ht40 ?rest40; (case hv40 => (intro W' hW'; obtain ⟨q0, q1⟩ := two_cells hW'; go_simp; try with_reducible rfl)); case ht40 => (simp only [List.setIfInBounds_toArray, List.set_cons_zero, List.set_cons_succ]; with_reducible rfl)
          refine wpAnyH_done (by kernel_rfl) ?_ _
          obtain ⟨wl, hwl⟩ : ∃ W', V5 = W' := ⟨_, rfl⟩
          rw [hwl] at hR2 hoc2 hor2 hS5 hcx ⊢
          have HB9 := hid hS5
          have HR2 := hid hR2
          have HOC := hid hoc2
          have HOR := hid hor2
          have HCX := hid hcx
          have HNX : Hid (¬ gx = b8) := hid (by have := lt_of_block HB8.out; omega)
          clear hoc hor hoc2 hor2 hR2 hcx hS5 hx4 r0 r1 f0 f1 hgx hwl
          obtain ⟨x0, x1⟩ := two_cells HR2.out
          obtain ⟨z0, z1⟩ := two_cells HB9.out
          obtain ⟨ra, rc, rfl⟩ := (RdK.of_own HOR.out).shape
          rw [show (wR 1).length = 0 from rfl]
          go_wp2_with (fail)
          refine wp_region_later (by kernel_rfl) (by kernel_rfl) (Chg.refl [] wl) ?_
          repeat (first | go_big_quiet_step (fail) | quiet_step (fail))
          refine wpQuiet_nil ?_
          rintro wq ⟨⟨_, hcq⟩, rfl⟩
          have HB9' := hid (hcq.heap HB9.out (by simp))
          have HR2' := hid (hcq.heap HR2.out (by simp))
          obtain ⟨x0, x1⟩ := two_cells HR2'.out
          obtain ⟨r0, r1, f0, f1, -, -⟩ := store2 (.slice ua (wC 2).es.length uc) (.slice va (wC 2).gs.length vc) HB9'.out
          have hnx : ¬ gx = b8 := HNX.out
          have hnx' : ¬ b8 = gx := fun h => HNX.out h.symm
          go_wp2_with (fail)
          obtain ⟨-, -, -, -, HR3, HC3⟩ := store2 (.slice ua (wC 2).es.length uc) (.slice va (wC 2).gs.length vc) HB9'.out
          go_roundw
          case rel => exact ⟨2, by omega, by rfl, ((HC.out.trans HCX.out).trans hcq).then HC3.out (by intro j hj hlt; rw [List.mem_singleton] at hj; omega), _, _, HR3.out, (HOC.out.keep1 hcq |>.base HC.out.size).keepC HB9'.out HC3.out⟩
          case measure => simp [intOf]
    by_cases hk2 : k = 2
    · as_aux_lemma =>
        subst hk2
        have HB8 := hid hb8
        have HOW := hid how
        have HC := hid hc
        clear hb8 how hc
        obtain ⟨wb, hwb'⟩ : ∃ W', wr = W' := ⟨_, rfl⟩
        rw [hwb'] at HB8 HOW HC ⊢
        clear hwb'
        go_wp2_with (fail)
        refine region_held (S := fun w' => w'.heap[b8]? = some (.cells #[ve, vg] 36 (0, 0))) (by kernel_rfl) (n := 12) rfl (l := #[false, false, false, false, false, false, false, false, false, false, false, false]) rfl ?_
        obtain ⟨V1, hE1⟩ : ∃ W', wb.drew = W' := ⟨_, rfl⟩
        rw [hE1]
        have hA1 : Chg [] wb V1 := by rw [← hE1]; exact Chg.drew [] _
        have hS1 := hA1.heap HB8.out (by simp)
        clear hE1
        refine held_take' 0 95 (listed' := #[true, false, false, false, false, false, false, false, false, false, false, false]) (v := ?v41) (t' := ?t41) rfl rfl (by kernel_rfl) (by rfl) ?hv41 (fun _ _ _ h => h) hS1 rfl ?ht41 ?rest41; (case hv41 => (intro W' hW'; obtain ⟨q0, q1⟩ := two_cells hW'; go_simp; try with_reducible rfl)); case ht41 => (simp only [List.setIfInBounds_toArray, List.set_cons_zero, List.set_cons_succ]; with_reducible rfl)
        refine held_take' 1 96 (listed' := #[true, true, false, false, false, false, false, false, false, false, false, false]) (v := ?v42) (t' := ?t42) rfl rfl (by kernel_rfl) (by rfl) ?hv42 (fun _ _ _ h => h) hS1 rfl ?ht42 ?rest42; (case hv42 => (intro W' hW'; obtain ⟨q0, q1⟩ := two_cells hW'; go_simp; try with_reducible rfl)); case ht42 => (simp only [List.setIfInBounds_toArray, List.set_cons_zero, List.set_cons_succ]; with_reducible rfl)
        refine held_two 2 8 rfl rfl (by kernel_rfl) (by rfl) (by rfl) (fun K hK => ?_) (fun K hK => ?_)
        · go_simp
          refine (disk_any V1 ⟨#[65, 46, 71, 48, 48, 48, 53, 86, 48, 48]⟩).mono ?_
          rintro e V2 ⟨rfl, hA2⟩
          have hS2 := hA2.heap hS1 (by simp)
          refine hK.out _ _ hS2 ?_
          clear hK K
          show wpAnyH _ _ _ _ _ _ #[true, true, true, false, false, false, false, false, false, false, false, false] _ _
          refine held_two 3 8 rfl rfl (by kernel_rfl) (by rfl) (by rfl) (fun K hK => ?_) (fun K hK => ?_)
          · go_simp
            refine (Add_to (d := wC 3) V2 ve vg (wC 2) (HOW.out.rdc.keep1 (hA1.trans hA2)) ⟨#[65, 46, 71, 48, 48, 48, 53, 86, 48, 48]⟩ ⟨#[86, 49]⟩ 5 0 (w_add 2 (by decide))).mono ?_
            rintro e V3 ⟨ue, ug, ur, rfl, hoc, hor, hA3⟩
            obtain ⟨ua, uc, rfl⟩ := (RdK.of_own hoc.1).shape
            obtain ⟨va, vc, rfl⟩ := (RdK.of_own hoc.2).shape
            replace hoc := hoc.base ((hA1.trans hA2).size)
            replace hor := ownK_base hor ((hA1.trans hA2).size)
            have hS3 := hA3.heap hS2 (by simp)
            refine hK.out _ _ hS3 ?_
            clear hK K
            show wpAnyH _ _ _ _ _ _ #[true, true, true, true, false, false, false, false, false, false, false, false] _ _
            refine held_take' 4 94 (listed' := #[true, true, true, true, true, false, false, false, false, false, false, false]) (v := ?v43) (t' := ?t43) rfl rfl (by kernel_rfl) (by rfl) ?hv43 (fun _ _ _ h => h) hS3 rfl ?ht43 ?rest43; (case hv43 => (intro W' hW'; obtain ⟨q0, q1⟩ := two_cells hW'; go_simp; try with_reducible rfl)); case ht43 => (simp only [List.setIfInBounds_toArray, List.set_cons_zero, List.set_cons_succ]; with_reducible rfl)
            refine held_take' 5 99 (listed' := #[true, true, true, true, true, true, false, false, false, false, false, false]) (v := ?v44) (t' := ?t44) rfl rfl (by kernel_rfl) (by rfl) ?hv44 (fun _ _ _ h => h) hS3 rfl ?ht44 ?rest44; (case hv44 => (intro W' hW'; obtain ⟨q0, q1⟩ := two_cells hW'; go_simp; try with_reducible rfl)); case ht44 => (simp only [List.setIfInBounds_toArray, List.set_cons_zero, List.set_cons_succ]; with_reducible rfl)
            refine held_take' 6 100 (listed' := #[true, true, true, true, true, true, true, false, false, false, false, false]) (v := ?v45) (t' := ?t45) rfl rfl (by kernel_rfl) (by rfl) ?hv45 (fun _ _ _ h => h) hS3 rfl ?ht45 ?rest45; (case hv45 => (intro W' hW'; obtain ⟨q0, q1⟩ := two_cells hW'; go_simp; try with_reducible rfl)); case ht45 => (simp only [List.setIfInBounds_toArray, List.set_cons_zero, List.set_cons_succ]; with_reducible rfl)
            refine held_take' 7 101 (listed' := #[true, true, true, true, true, true, true, true, false, false, false, false]) (v := ?v46) (t' := ?t46) rfl rfl (by kernel_rfl) (by rfl) ?hv46 (fun _ _ _ h => h) hS3 rfl ?ht46 ?rest46; (case hv46 => (intro W' hW'; obtain ⟨q0, q1⟩ := two_cells hW'; go_simp; try with_reducible rfl)); case ht46 => (simp only [List.setIfInBounds_toArray, List.set_cons_zero, List.set_cons_succ]; with_reducible rfl)
            refine held_one 8 rfl (by kernel_rfl) (by rfl) (fun K hK => ?_)
            go_simp
            have hx4 := al_new (w := V3) (o := .cells #[.slice none 0 0, .slice none 0 0] 36) rfl
            have hA4 := Chg.alloc [] V3 (.cells #[.slice none 0 0, .slice none 0 0] 36)
            have hS4 := hA4.heap hS3 (by simp)
            have hgx : wb.heap.size ≤ V3.heap.size := (((hA1.trans hA2).trans hA3)).size
            refine hK.out _ _ hS4 ?_
            clear hK K
            generalize V3.alloc (.cells #[.slice none 0 0, .slice none 0 0] 36) = V4 at hx4 hA4 hS4 ⊢
            generalize V3.heap.size = gx at hx4 hgx ⊢
            replace hoc := hoc.keep1 hA4
            replace hor := ownK_keep1 hor hA4
            show wpAnyH _ _ _ _ _ _ #[true, true, true, true, true, true, true, true, true, false, false, false] _ _
            refine held_one 9 rfl (by kernel_rfl) (by rfl) (fun K hK => ?_)
            obtain ⟨r0, r1, f0, f1, HR2, HC2⟩ := store2 (.slice ua (wC 3).es.length uc) (.slice va (wC 3).gs.length vc) hx4
            have hR2 := HR2.out
            have hC2 := HC2.out
            clear HR2 HC2
            have hoc2 := hoc.keepC hx4 hC2
            have hor2 := ownK_keep hor hC2 (own_ne hor hx4 (by decide))
            have hS5 := hC2.heap hS4 (by rw [List.mem_singleton]; have := lt_of_block HB8.out; omega)
            have hcx : Chg [] wb _ := (((hA1.trans hA2).trans hA3).trans hA4).then hC2 (by intro j hj hlt; rw [List.mem_singleton] at hj; omega)
            obtain ⟨V5, hV5⟩ : ∃ W', (V4.setCell ⟨gx, 0, none⟩ (.slice ua (wC 3).es.length uc)).setCell ⟨gx, 1, none⟩ (.slice va (wC 3).gs.length vc) = W' := ⟨_, rfl⟩
            rw [hV5] at hR2 hoc2 hor2 hS5 hcx
            clear hC2
            go_simp
            try rw [hV5]
            clear hV5
            refine hK.out _ _ hS5 ?_
            clear hK K
            show wpAnyH _ _ _ _ _ _ #[true, true, true, true, true, true, true, true, true, true, false, false] _ _
            refine held_take' 10 13 (listed' := #[true, true, true, true, true, true, true, true, true, true, true, false]) (v := ?v47) (t' := ?t47) rfl rfl (by kernel_rfl) (by rfl) ?hv47 (fun _ _ _ h => h) hS5 rfl ?ht47 ?rest47; (case hv47 => (intro W' hW'; obtain ⟨q0, q1⟩ := two_cells hW'; go_simp; try with_reducible rfl)); case ht47 => (simp only [List.setIfInBounds_toArray, List.set_cons_zero, List.set_cons_succ]; with_reducible rfl)
            refine held_take' 11 14 (listed' := #[true, true, true, true, true, true, true, true, true, true, true, true]) (v := ?v48) (t' := ?t48) rfl rfl (by kernel_rfl) (by rfl) ?hv48 (fun _ _ _ h => h) hS5 rfl ?ht48 ?rest48; (case hv48 => (intro W' hW'; obtain ⟨q0, q1⟩ := two_cells hW'; go_simp; try with_reducible rfl)); case ht48 => (simp only [List.setIfInBounds_toArray, List.set_cons_zero, List.set_cons_succ]; with_reducible rfl)
            refine wpAnyH_done (by kernel_rfl) ?_ _
            obtain ⟨wl, hwl⟩ : ∃ W', V5 = W' := ⟨_, rfl⟩
            rw [hwl] at hR2 hoc2 hor2 hS5 hcx ⊢
            have HB9 := hid hS5
            have HR2 := hid hR2
            have HOC := hid hoc2
            have HOR := hid hor2
            have HCX := hid hcx
            have HNX : Hid (¬ gx = b8) := hid (by have := lt_of_block HB8.out; omega)
            clear hoc hor hoc2 hor2 hR2 hcx hS5 hx4 r0 r1 f0 f1 hgx hwl
            obtain ⟨x0, x1⟩ := two_cells HR2.out
            obtain ⟨z0, z1⟩ := two_cells HB9.out
            rcases (RdE.of_own HOR.out : RdE wl ur (wR 2)).parts (L := 1) rfl with ⟨_, h, _⟩ | ⟨rb, ro, rc, rfl, e1, e2, e3, elt, EC⟩
            · omega
            obtain ⟨y0, y1, y2, y3⟩ := EC.out 0 (by omega)
            rw [Nat.zero_mul, Nat.add_zero] at y0 y1 y2 y3
            replace y0 : wl.cell? ⟨rb, ro, none⟩ = some (.string ⟨#[65, 46, 71, 48, 48, 48, 51, 86, 48, 48]⟩) := y0
            replace y1 : wl.cell? ⟨rb, ro + 1, none⟩ = some (.int .i64 5) := y1
            replace y2 : wl.cell? ⟨rb, ro + 2, none⟩ = some (.string ⟨#[86, 49]⟩) := y2
            replace y3 : wl.cell? ⟨rb, ro + 3, none⟩ = some (.int .i64 0) := y3
            go_wp2_with (fail)
            have m0 := later_cell y0
            have m1 := later_cell y1
            have m2 := later_cell y2
            have m3 := later_cell y3
            refine wp_region_later (by kernel_rfl) (by kernel_rfl) (Chg.refl [] wl) ?_
            repeat (first | go_big_quiet_step ((go_at_call 22; exact later_calls (disk_any _ _))) | quiet_step ((go_at_call 22; exact later_calls (disk_any _ _))))
            refine wpQuiet_nil ?_
            rintro wq ⟨⟨_, hcq⟩, rfl⟩
            clear m0 m1 m2 m3
            have HB9' := hid (hcq.heap HB9.out (by simp))
            have HR2' := hid (hcq.heap HR2.out (by simp))
            obtain ⟨x0, x1⟩ := two_cells HR2'.out
            obtain ⟨r0, r1, f0, f1, -, -⟩ := store2 (.slice ua (wC 3).es.length uc) (.slice va (wC 3).gs.length vc) HB9'.out
            have hnx : ¬ gx = b8 := HNX.out
            have hnx' : ¬ b8 = gx := fun h => HNX.out h.symm
            go_wp2_with (fail)
            obtain ⟨-, -, -, -, HR3, HC3⟩ := store2 (.slice ua (wC 3).es.length uc) (.slice va (wC 3).gs.length vc) HB9'.out
            go_roundw
            case rel => exact ⟨3, by omega, by rfl, ((HC.out.trans HCX.out).trans hcq).then HC3.out (by intro j hj hlt; rw [List.mem_singleton] at hj; omega), _, _, HR3.out, (HOC.out.keep1 hcq |>.base HC.out.size).keepC HB9'.out HC3.out⟩
            case measure => simp [intOf]
          · go_simp
            have hx3 := al_new (w := V2) (o := .cells #[.slice none 0 0, .slice none 0 0] 36) rfl
            have hA3 := Chg.alloc [] V2 (.cells #[.slice none 0 0, .slice none 0 0] 36)
            have hS3 := hA3.heap hS2 (by simp)
            have hgx : wb.heap.size ≤ V2.heap.size := ((hA1.trans hA2)).size
            refine hK.out _ _ hS3 ?_
            clear hK K
            generalize V2.alloc (.cells #[.slice none 0 0, .slice none 0 0] 36) = V3 at hx3 hA3 hS3 ⊢
            generalize V2.heap.size = gx at hx3 hgx ⊢
            show wpAnyH _ _ _ _ _ _ #[true, true, true, false, false, false, false, false, true, false, false, false] _ _
            refine held_one 3 rfl (by kernel_rfl) (by rfl) (fun K hK => ?_)
            go_simp
            refine (Add_to (d := wC 3) V3 ve vg (wC 2) (HOW.out.rdc.keep1 ((hA1.trans hA2).trans hA3)) ⟨#[65, 46, 71, 48, 48, 48, 53, 86, 48, 48]⟩ ⟨#[86, 49]⟩ 5 0 (w_add 2 (by decide))).mono ?_
            rintro e V4 ⟨ue, ug, ur, rfl, hoc, hor, hA4⟩
            obtain ⟨ua, uc, rfl⟩ := (RdK.of_own hoc.1).shape
            obtain ⟨va, vc, rfl⟩ := (RdK.of_own hoc.2).shape
            replace hoc := hoc.base (((hA1.trans hA2).trans hA3).size)
            replace hor := ownK_base hor (((hA1.trans hA2).trans hA3).size)
            have hx4 := hA4.heap hx3 (by simp)
            have hS4 := hA4.heap hS3 (by simp)
            refine hK.out _ _ hS4 ?_
            clear hK K
            show wpAnyH _ _ _ _ _ _ #[true, true, true, true, false, false, false, false, true, false, false, false] _ _
            refine held_take' 4 94 (listed' := #[true, true, true, true, true, false, false, false, true, false, false, false]) (v := ?v49) (t' := ?t49) rfl rfl (by kernel_rfl) (by rfl) ?hv49 (fun _ _ _ h => h) hS4 rfl ?ht49 ?rest49; (case hv49 => (intro W' hW'; obtain ⟨q0, q1⟩ := two_cells hW'; go_simp; try with_reducible rfl)); case ht49 => (simp only [List.setIfInBounds_toArray, List.set_cons_zero, List.set_cons_succ]; with_reducible rfl)
            refine held_take' 5 99 (listed' := #[true, true, true, true, true, true, false, false, true, false, false, false]) (v := ?v50) (t' := ?t50) rfl rfl (by kernel_rfl) (by rfl) ?hv50 (fun _ _ _ h => h) hS4 rfl ?ht50 ?rest50; (case hv50 => (intro W' hW'; obtain ⟨q0, q1⟩ := two_cells hW'; go_simp; try with_reducible rfl)); case ht50 => (simp only [List.setIfInBounds_toArray, List.set_cons_zero, List.set_cons_succ]; with_reducible rfl)
            refine held_take' 6 100 (listed' := #[true, true, true, true, true, true, true, false, true, false, false, false]) (v := ?v51) (t' := ?t51) rfl rfl (by kernel_rfl) (by rfl) ?hv51 (fun _ _ _ h => h) hS4 rfl ?ht51 ?rest51; (case hv51 => (intro W' hW'; obtain ⟨q0, q1⟩ := two_cells hW'; go_simp; try with_reducible rfl)); case ht51 => (simp only [List.setIfInBounds_toArray, List.set_cons_zero, List.set_cons_succ]; with_reducible rfl)
            refine held_take' 7 101 (listed' := #[true, true, true, true, true, true, true, true, true, false, false, false]) (v := ?v52) (t' := ?t52) rfl rfl (by kernel_rfl) (by rfl) ?hv52 (fun _ _ _ h => h) hS4 rfl ?ht52 ?rest52; (case hv52 => (intro W' hW'; obtain ⟨q0, q1⟩ := two_cells hW'; go_simp; try with_reducible rfl)); case ht52 => (simp only [List.setIfInBounds_toArray, List.set_cons_zero, List.set_cons_succ]; with_reducible rfl)
            refine held_one 9 rfl (by kernel_rfl) (by rfl) (fun K hK => ?_)
            obtain ⟨r0, r1, f0, f1, HR2, HC2⟩ := store2 (.slice ua (wC 3).es.length uc) (.slice va (wC 3).gs.length vc) hx4
            have hR2 := HR2.out
            have hC2 := HC2.out
            clear HR2 HC2
            have hoc2 := hoc.keepC hx4 hC2
            have hor2 := ownK_keep hor hC2 (own_ne hor hx4 (by decide))
            have hS5 := hC2.heap hS4 (by rw [List.mem_singleton]; have := lt_of_block HB8.out; omega)
            have hcx : Chg [] wb _ := (((hA1.trans hA2).trans hA3).trans hA4).then hC2 (by intro j hj hlt; rw [List.mem_singleton] at hj; omega)
            obtain ⟨V5, hV5⟩ : ∃ W', (V4.setCell ⟨gx, 0, none⟩ (.slice ua (wC 3).es.length uc)).setCell ⟨gx, 1, none⟩ (.slice va (wC 3).gs.length vc) = W' := ⟨_, rfl⟩
            rw [hV5] at hR2 hoc2 hor2 hS5 hcx
            clear hC2
            go_simp
            try rw [hV5]
            clear hV5
            refine hK.out _ _ hS5 ?_
            clear hK K
            show wpAnyH _ _ _ _ _ _ #[true, true, true, true, true, true, true, true, true, true, false, false] _ _
            refine held_take' 10 13 (listed' := #[true, true, true, true, true, true, true, true, true, true, true, false]) (v := ?v53) (t' := ?t53) rfl rfl (by kernel_rfl) (by rfl) ?hv53 (fun _ _ _ h => h) hS5 rfl ?ht53 ?rest53; (case hv53 => (intro W' hW'; obtain ⟨q0, q1⟩ := two_cells hW'; go_simp; try with_reducible rfl)); case ht53 => (simp only [List.setIfInBounds_toArray, List.set_cons_zero, List.set_cons_succ]; with_reducible rfl)
            refine held_take' 11 14 (listed' := #[true, true, true, true, true, true, true, true, true, true, true, true]) (v := ?v54) (t' := ?t54) rfl rfl (by kernel_rfl) (by rfl) ?hv54 (fun _ _ _ h => h) hS5 rfl ?ht54 ?rest54; (case hv54 => (intro W' hW'; obtain ⟨q0, q1⟩ := two_cells hW'; go_simp; try with_reducible rfl)); case ht54 => (simp only [List.setIfInBounds_toArray, List.set_cons_zero, List.set_cons_succ]; with_reducible rfl)
            refine wpAnyH_done (by kernel_rfl) ?_ _
            obtain ⟨wl, hwl⟩ : ∃ W', V5 = W' := ⟨_, rfl⟩
            rw [hwl] at hR2 hoc2 hor2 hS5 hcx ⊢
            have HB9 := hid hS5
            have HR2 := hid hR2
            have HOC := hid hoc2
            have HOR := hid hor2
            have HCX := hid hcx
            have HNX : Hid (¬ gx = b8) := hid (by have := lt_of_block HB8.out; omega)
            clear hoc hor hoc2 hor2 hR2 hcx hS5 hx4 r0 r1 f0 f1 hgx hwl
            obtain ⟨x0, x1⟩ := two_cells HR2.out
            obtain ⟨z0, z1⟩ := two_cells HB9.out
            rcases (RdE.of_own HOR.out : RdE wl ur (wR 2)).parts (L := 1) rfl with ⟨_, h, _⟩ | ⟨rb, ro, rc, rfl, e1, e2, e3, elt, EC⟩
            · omega
            obtain ⟨y0, y1, y2, y3⟩ := EC.out 0 (by omega)
            rw [Nat.zero_mul, Nat.add_zero] at y0 y1 y2 y3
            replace y0 : wl.cell? ⟨rb, ro, none⟩ = some (.string ⟨#[65, 46, 71, 48, 48, 48, 51, 86, 48, 48]⟩) := y0
            replace y1 : wl.cell? ⟨rb, ro + 1, none⟩ = some (.int .i64 5) := y1
            replace y2 : wl.cell? ⟨rb, ro + 2, none⟩ = some (.string ⟨#[86, 49]⟩) := y2
            replace y3 : wl.cell? ⟨rb, ro + 3, none⟩ = some (.int .i64 0) := y3
            go_wp2_with (fail)
            have m0 := later_cell y0
            have m1 := later_cell y1
            have m2 := later_cell y2
            have m3 := later_cell y3
            refine wp_region_later (by kernel_rfl) (by kernel_rfl) (Chg.refl [] wl) ?_
            repeat (first | go_big_quiet_step ((go_at_call 22; exact later_calls (disk_any _ _))) | quiet_step ((go_at_call 22; exact later_calls (disk_any _ _))))
            refine wpQuiet_nil ?_
            rintro wq ⟨⟨_, hcq⟩, rfl⟩
            clear m0 m1 m2 m3
            have HB9' := hid (hcq.heap HB9.out (by simp))
            have HR2' := hid (hcq.heap HR2.out (by simp))
            obtain ⟨x0, x1⟩ := two_cells HR2'.out
            obtain ⟨r0, r1, f0, f1, -, -⟩ := store2 (.slice ua (wC 3).es.length uc) (.slice va (wC 3).gs.length vc) HB9'.out
            have hnx : ¬ gx = b8 := HNX.out
            have hnx' : ¬ b8 = gx := fun h => HNX.out h.symm
            go_wp2_with (fail)
            obtain ⟨-, -, -, -, HR3, HC3⟩ := store2 (.slice ua (wC 3).es.length uc) (.slice va (wC 3).gs.length vc) HB9'.out
            go_roundw
            case rel => exact ⟨3, by omega, by rfl, ((HC.out.trans HCX.out).trans hcq).then HC3.out (by intro j hj hlt; rw [List.mem_singleton] at hj; omega), _, _, HR3.out, (HOC.out.keep1 hcq |>.base HC.out.size).keepC HB9'.out HC3.out⟩
            case measure => simp [intOf]
        · go_simp
          have hx2 := al_new (w := V1) (o := .cells #[.slice none 0 0, .slice none 0 0] 36) rfl
          have hA2 := Chg.alloc [] V1 (.cells #[.slice none 0 0, .slice none 0 0] 36)
          have hS2 := hA2.heap hS1 (by simp)
          have hgx : wb.heap.size ≤ V1.heap.size := (hA1).size
          refine hK.out _ _ hS2 ?_
          clear hK K
          generalize V1.alloc (.cells #[.slice none 0 0, .slice none 0 0] 36) = V2 at hx2 hA2 hS2 ⊢
          generalize V1.heap.size = gx at hx2 hgx ⊢
          show wpAnyH _ _ _ _ _ _ #[true, true, false, false, false, false, false, false, true, false, false, false] _ _
          refine held_one 2 rfl (by kernel_rfl) (by rfl) (fun K hK => ?_)
          go_simp
          refine (disk_any V2 ⟨#[65, 46, 71, 48, 48, 48, 53, 86, 48, 48]⟩).mono ?_
          rintro e V3 ⟨rfl, hA3⟩
          have hx3 := hA3.heap hx2 (by simp)
          have hS3 := hA3.heap hS2 (by simp)
          refine hK.out _ _ hS3 ?_
          clear hK K
          show wpAnyH _ _ _ _ _ _ #[true, true, true, false, false, false, false, false, true, false, false, false] _ _
          refine held_one 3 rfl (by kernel_rfl) (by rfl) (fun K hK => ?_)
          go_simp
          refine (Add_to (d := wC 3) V3 ve vg (wC 2) (HOW.out.rdc.keep1 ((hA1.trans hA2).trans hA3)) ⟨#[65, 46, 71, 48, 48, 48, 53, 86, 48, 48]⟩ ⟨#[86, 49]⟩ 5 0 (w_add 2 (by decide))).mono ?_
          rintro e V4 ⟨ue, ug, ur, rfl, hoc, hor, hA4⟩
          obtain ⟨ua, uc, rfl⟩ := (RdK.of_own hoc.1).shape
          obtain ⟨va, vc, rfl⟩ := (RdK.of_own hoc.2).shape
          replace hoc := hoc.base (((hA1.trans hA2).trans hA3).size)
          replace hor := ownK_base hor (((hA1.trans hA2).trans hA3).size)
          have hx4 := hA4.heap hx3 (by simp)
          have hS4 := hA4.heap hS3 (by simp)
          refine hK.out _ _ hS4 ?_
          clear hK K
          show wpAnyH _ _ _ _ _ _ #[true, true, true, true, false, false, false, false, true, false, false, false] _ _
          refine held_take' 4 94 (listed' := #[true, true, true, true, true, false, false, false, true, false, false, false]) (v := ?v55) (t' := ?t55) rfl rfl (by kernel_rfl) (by rfl) ?hv55 (fun _ _ _ h => h) hS4 rfl ?ht55 ?rest55; (case hv55 => (intro W' hW'; obtain ⟨q0, q1⟩ := two_cells hW'; go_simp; try with_reducible rfl)); case ht55 => (simp only [List.setIfInBounds_toArray, List.set_cons_zero, List.set_cons_succ]; with_reducible rfl)
          refine held_take' 5 99 (listed' := #[true, true, true, true, true, true, false, false, true, false, false, false]) (v := ?v56) (t' := ?t56) rfl rfl (by kernel_rfl) (by rfl) ?hv56 (fun _ _ _ h => h) hS4 rfl ?ht56 ?rest56; (case hv56 => (intro W' hW'; obtain ⟨q0, q1⟩ := two_cells hW'; go_simp; try with_reducible rfl)); case ht56 => (simp only [List.setIfInBounds_toArray, List.set_cons_zero, List.set_cons_succ]; with_reducible rfl)
          refine held_take' 6 100 (listed' := #[true, true, true, true, true, true, true, false, true, false, false, false]) (v := ?v57) (t' := ?t57) rfl rfl (by kernel_rfl) (by rfl) ?hv57 (fun _ _ _ h => h) hS4 rfl ?ht57 ?rest57; (case hv57 => (intro W' hW'; obtain ⟨q0, q1⟩ := two_cells hW'; go_simp; try with_reducible rfl)); case ht57 => (simp only [List.setIfInBounds_toArray, List.set_cons_zero, List.set_cons_succ]; with_reducible rfl)
          refine held_take' 7 101 (listed' := #[true, true, true, true, true, true, true, true, true, false, false, false]) (v := ?v58) (t' := ?t58) rfl rfl (by kernel_rfl) (by rfl) ?hv58 (fun _ _ _ h => h) hS4 rfl ?ht58 ?rest58; (case hv58 => (intro W' hW'; obtain ⟨q0, q1⟩ := two_cells hW'; go_simp; try with_reducible rfl)); case ht58 => (simp only [List.setIfInBounds_toArray, List.set_cons_zero, List.set_cons_succ]; with_reducible rfl)
          refine held_one 9 rfl (by kernel_rfl) (by rfl) (fun K hK => ?_)
          obtain ⟨r0, r1, f0, f1, HR2, HC2⟩ := store2 (.slice ua (wC 3).es.length uc) (.slice va (wC 3).gs.length vc) hx4
          have hR2 := HR2.out
          have hC2 := HC2.out
          clear HR2 HC2
          have hoc2 := hoc.keepC hx4 hC2
          have hor2 := ownK_keep hor hC2 (own_ne hor hx4 (by decide))
          have hS5 := hC2.heap hS4 (by rw [List.mem_singleton]; have := lt_of_block HB8.out; omega)
          have hcx : Chg [] wb _ := (((hA1.trans hA2).trans hA3).trans hA4).then hC2 (by intro j hj hlt; rw [List.mem_singleton] at hj; omega)
          obtain ⟨V5, hV5⟩ : ∃ W', (V4.setCell ⟨gx, 0, none⟩ (.slice ua (wC 3).es.length uc)).setCell ⟨gx, 1, none⟩ (.slice va (wC 3).gs.length vc) = W' := ⟨_, rfl⟩
          rw [hV5] at hR2 hoc2 hor2 hS5 hcx
          clear hC2
          go_simp
          try rw [hV5]
          clear hV5
          refine hK.out _ _ hS5 ?_
          clear hK K
          show wpAnyH _ _ _ _ _ _ #[true, true, true, true, true, true, true, true, true, true, false, false] _ _
          refine held_take' 10 13 (listed' := #[true, true, true, true, true, true, true, true, true, true, true, false]) (v := ?v59) (t' := ?t59) rfl rfl (by kernel_rfl) (by rfl) ?hv59 (fun _ _ _ h => h) hS5 rfl ?ht59 ?rest59; (case hv59 => (intro W' hW'; obtain ⟨q0, q1⟩ := two_cells hW'; go_simp; try with_reducible rfl)); case ht59 => (simp only [List.setIfInBounds_toArray, List.set_cons_zero, List.set_cons_succ]; with_reducible rfl)
          refine held_take' 11 14 (listed' := #[true, true, true, true, true, true, true, true, true, true, true, true]) (v := ?v60) (t' := ?t60) rfl rfl (by kernel_rfl) (by rfl) ?hv60 (fun _ _ _ h => h) hS5 rfl ?ht60 ?rest60; (case hv60 => (intro W' hW'; obtain ⟨q0, q1⟩ := two_cells hW'; go_simp; try with_reducible rfl)); case ht60 => (simp only [List.setIfInBounds_toArray, List.set_cons_zero, List.set_cons_succ]; with_reducible rfl)
          refine wpAnyH_done (by kernel_rfl) ?_ _
          obtain ⟨wl, hwl⟩ : ∃ W', V5 = W' := ⟨_, rfl⟩
          rw [hwl] at hR2 hoc2 hor2 hS5 hcx ⊢
          have HB9 := hid hS5
          have HR2 := hid hR2
          have HOC := hid hoc2
          have HOR := hid hor2
          have HCX := hid hcx
          have HNX : Hid (¬ gx = b8) := hid (by have := lt_of_block HB8.out; omega)
          clear hoc hor hoc2 hor2 hR2 hcx hS5 hx4 r0 r1 f0 f1 hgx hwl
          obtain ⟨x0, x1⟩ := two_cells HR2.out
          obtain ⟨z0, z1⟩ := two_cells HB9.out
          rcases (RdE.of_own HOR.out : RdE wl ur (wR 2)).parts (L := 1) rfl with ⟨_, h, _⟩ | ⟨rb, ro, rc, rfl, e1, e2, e3, elt, EC⟩
          · omega
          obtain ⟨y0, y1, y2, y3⟩ := EC.out 0 (by omega)
          rw [Nat.zero_mul, Nat.add_zero] at y0 y1 y2 y3
          replace y0 : wl.cell? ⟨rb, ro, none⟩ = some (.string ⟨#[65, 46, 71, 48, 48, 48, 51, 86, 48, 48]⟩) := y0
          replace y1 : wl.cell? ⟨rb, ro + 1, none⟩ = some (.int .i64 5) := y1
          replace y2 : wl.cell? ⟨rb, ro + 2, none⟩ = some (.string ⟨#[86, 49]⟩) := y2
          replace y3 : wl.cell? ⟨rb, ro + 3, none⟩ = some (.int .i64 0) := y3
          go_wp2_with (fail)
          have m0 := later_cell y0
          have m1 := later_cell y1
          have m2 := later_cell y2
          have m3 := later_cell y3
          refine wp_region_later (by kernel_rfl) (by kernel_rfl) (Chg.refl [] wl) ?_
          repeat (first | go_big_quiet_step ((go_at_call 22; exact later_calls (disk_any _ _))) | quiet_step ((go_at_call 22; exact later_calls (disk_any _ _))))
          refine wpQuiet_nil ?_
          rintro wq ⟨⟨_, hcq⟩, rfl⟩
          clear m0 m1 m2 m3
          have HB9' := hid (hcq.heap HB9.out (by simp))
          have HR2' := hid (hcq.heap HR2.out (by simp))
          obtain ⟨x0, x1⟩ := two_cells HR2'.out
          obtain ⟨r0, r1, f0, f1, -, -⟩ := store2 (.slice ua (wC 3).es.length uc) (.slice va (wC 3).gs.length vc) HB9'.out
          have hnx : ¬ gx = b8 := HNX.out
          have hnx' : ¬ b8 = gx := fun h => HNX.out h.symm
          go_wp2_with (fail)
          obtain ⟨-, -, -, -, HR3, HC3⟩ := store2 (.slice ua (wC 3).es.length uc) (.slice va (wC 3).gs.length vc) HB9'.out
          go_roundw
          case rel => exact ⟨3, by omega, by rfl, ((HC.out.trans HCX.out).trans hcq).then HC3.out (by intro j hj hlt; rw [List.mem_singleton] at hj; omega), _, _, HR3.out, (HOC.out.keep1 hcq |>.base HC.out.size).keepC HB9'.out HC3.out⟩
          case measure => simp [intOf]
    obtain rfl : k = 3 := by omega
    obtain ⟨z0, z1⟩ := two_cells hb8
    have hrd := how.rdc
    have HB8 := hid hb8
    clear hb8 i0 i1 i2
    have HR1 : Hid (∀ W, RdC W ve vg (wC 3) → Calls Tryd.prog 24 #[.agg #[ve, vg], .string ⟨#[65]⟩, .int .i64 (0), .string ⟨#[65, 46, 71, 48, 48, 48, 53, 86, 48, 48]⟩, .int .i64 0] W fun e w' => e = .returned (.bool true) ∧ Chg [] W w') := fun W hW => by
      have h := resolves_any W ve vg (wC 3) hW ⟨#[65]⟩ ⟨#[65, 46, 71, 48, 48, 48, 53, 86, 48, 48]⟩ (by decide) (0) 0 (by decide)
      rw [show resolveC (wC 3) ((⟨#[65]⟩ : ByteArray).data.toList) (0) = (wN 5, 0) from w_res0] at h
      exact h
    have HR2 : Hid (∀ W, RdC W ve vg (wC 3) → Calls Tryd.prog 24 #[.agg #[ve, vg], .string ⟨#[65]⟩, .int .i64 (-1), .string ⟨#[65, 46, 71, 48, 48, 48, 52, 86, 48, 48]⟩, .int .i64 0] W fun e w' => e = .returned (.bool true) ∧ Chg [] W w') := fun W hW => by
      have h := resolves_any W ve vg (wC 3) hW ⟨#[65]⟩ ⟨#[65, 46, 71, 48, 48, 48, 52, 86, 48, 48]⟩ (by decide) (-1) 0 (by decide)
      rw [show resolveC (wC 3) ((⟨#[65]⟩ : ByteArray).data.toList) (-1) = (wN 4, 0) from w_res1] at h
      exact h
    have HR3 : Hid (∀ W, RdC W ve vg (wC 3) → Calls Tryd.prog 24 #[.agg #[ve, vg], .string ⟨#[65]⟩, .int .i64 (-2), .string ⟨#[]⟩, .int .i64 3] W fun e w' => e = .returned (.bool true) ∧ Chg [] W w') := fun W hW => by
      have h := resolves_any W ve vg (wC 3) hW ⟨#[65]⟩ ⟨#[]⟩ (by decide) (-2) 3 (by decide)
      rw [show resolveC (wC 3) ((⟨#[65]⟩ : ByteArray).data.toList) (-2) = ([], 3) from w_res2] at h
      exact h
    have HR4 : Hid (∀ W, RdC W ve vg (wC 3) → Calls Tryd.prog 24 #[.agg #[ve, vg], .string ⟨#[65]⟩, .int .i64 (1), .string ⟨#[65, 46, 71, 48, 48, 48, 54, 86, 48, 48]⟩, .int .i64 0] W fun e w' => e = .returned (.bool true) ∧ Chg [] W w') := fun W hW => by
      have h := resolves_any W ve vg (wC 3) hW ⟨#[65]⟩ ⟨#[65, 46, 71, 48, 48, 48, 54, 86, 48, 48]⟩ (by decide) (1) 0 (by decide)
      rw [show resolveC (wC 3) ((⟨#[65]⟩ : ByteArray).data.toList) (1) = (wN 6, 0) from w_res3] at h
      exact h
    go_upto_region 17 with (first
      | (go_at_call 24; ((with_reducible refine (HR1.out _ hrd).mono ?_); rintro e W1 ⟨rfl, hcn⟩; replace hrd := hrd.keep1 hcn; replace how := how.keep1 hcn; replace HB8 := hid (hcn.heap HB8.out (by simp)); replace hc := hc.trans hcn; clear hcn z0 z1; obtain ⟨z0, z1⟩ := two_cells HB8.out))
      | (go_at_call 24; ((with_reducible refine (HR2.out _ hrd).mono ?_); rintro e W1 ⟨rfl, hcn⟩; replace hrd := hrd.keep1 hcn; replace how := how.keep1 hcn; replace HB8 := hid (hcn.heap HB8.out (by simp)); replace hc := hc.trans hcn; clear hcn z0 z1; obtain ⟨z0, z1⟩ := two_cells HB8.out))
      | (go_at_call 24; ((with_reducible refine (HR3.out _ hrd).mono ?_); rintro e W1 ⟨rfl, hcn⟩; replace hrd := hrd.keep1 hcn; replace how := how.keep1 hcn; replace HB8 := hid (hcn.heap HB8.out (by simp)); replace hc := hc.trans hcn; clear hcn z0 z1; obtain ⟨z0, z1⟩ := two_cells HB8.out))
      | (go_at_call 24; ((with_reducible refine (HR4.out _ hrd).mono ?_); rintro e W1 ⟨rfl, hcn⟩; replace hrd := hrd.keep1 hcn; replace how := how.keep1 hcn; replace HB8 := hid (hcn.heap HB8.out (by simp)); replace hc := hc.trans hcn; clear hcn z0 z1; obtain ⟨z0, z1⟩ := two_cells HB8.out)))
    clear HR1 HR2 HR3 HR4 hrd z0 z1
    have HOW := hid how
    have HC := hid hc
    clear how hc
    obtain ⟨wl, hwl⟩ : ∃ W', W1 = W' := ⟨_, rfl⟩
    rw [hwl] at HB8 HOW HC ⊢
    clear hwl
    go_cut [18] (fun sv W => sv = .int .i64 4 ∧ Chg [] wl W)
    case first =>
      as_aux_lemma =>
        refine region_held (S := fun w' => w'.heap[b8]? = some (.cells #[ve, vg] 36 (0, 0))) (by kernel_rfl) (n := 11) rfl (l := #[false, false, false, false, false, false, false, false, false, false, false]) rfl ?_
        obtain ⟨V1, hE1⟩ : ∃ W', wl.drew = W' := ⟨_, rfl⟩
        rw [hE1]
        have hA1 : Chg [] wl V1 := by rw [← hE1]; exact Chg.drew [] _
        have hS1 := hA1.heap HB8.out (by simp)
        clear hE1
        refine held_take' 0 145 (listed' := #[true, false, false, false, false, false, false, false, false, false, false]) (v := ?v61) (t' := ?t61) rfl rfl (by kernel_rfl) (by rfl) ?hv61 (fun _ _ _ h => h) hS1 rfl ?ht61 ?rest61; (case hv61 => (intro W' hW'; obtain ⟨q0, q1⟩ := two_cells hW'; go_simp; try with_reducible rfl)); case ht61 => (simp only [List.setIfInBounds_toArray, List.set_cons_zero, List.set_cons_succ]; with_reducible rfl)
        refine held_two 1 7 rfl rfl (by kernel_rfl) (by rfl) (by rfl) (fun K hK => ?_) (fun K hK => ?_)
        · go_simp
          refine (disk_any V1 ⟨#[65]⟩).mono ?_
          rintro e V2 ⟨rfl, hA2⟩
          have hS2 := hA2.heap hS1 (by simp)
          refine hK.out _ _ hS2 ?_
          clear hK K
          show wpAnyH _ _ _ _ _ _ #[true, true, false, false, false, false, false, false, false, false, false] _ _
          refine held_two 2 7 rfl rfl (by kernel_rfl) (by rfl) (by rfl) (fun K hK => ?_) (fun K hK => ?_)
          · go_simp
            refine (Add_to (d := wZ) V2 ve vg (wC 3) (HOW.out.rdc.keep1 (hA1.trans hA2)) ⟨#[65]⟩ ⟨#[86, 49]⟩ 5 0 w_twice).mono ?_
            rintro e V3 ⟨ue, ug, ur, rfl, hoc, hor, hA3⟩
            obtain ⟨ua, uc, rfl⟩ := (RdK.of_own hoc.1).shape
            obtain ⟨va, vc, rfl⟩ := (RdK.of_own hoc.2).shape
            clear hoc hor
            have hS3 := hA3.heap hS2 (by simp)
            refine hK.out _ _ hS3 ?_
            clear hK K
            show wpAnyH _ _ _ _ _ _ #[true, true, true, false, false, false, false, false, false, false, false] _ _
            refine held_take' 3 144 (listed' := #[true, true, true, true, false, false, false, false, false, false, false]) (v := ?v62) (t' := ?t62) rfl rfl (by kernel_rfl) (by rfl) ?hv62 (fun _ _ _ h => h) hS3 rfl ?ht62 ?rest62; (case hv62 => (intro W' hW'; obtain ⟨q0, q1⟩ := two_cells hW'; go_simp; try with_reducible rfl)); case ht62 => (simp only [List.setIfInBounds_toArray, List.set_cons_zero, List.set_cons_succ]; with_reducible rfl)
            refine held_take' 4 148 (listed' := #[true, true, true, true, true, false, false, false, false, false, false]) (v := ?v63) (t' := ?t63) rfl rfl (by kernel_rfl) (by rfl) ?hv63 (fun _ _ _ h => h) hS3 rfl ?ht63 ?rest63; (case hv63 => (intro W' hW'; obtain ⟨q0, q1⟩ := two_cells hW'; go_simp; try with_reducible rfl)); case ht63 => (simp only [List.setIfInBounds_toArray, List.set_cons_zero, List.set_cons_succ]; with_reducible rfl)
            refine held_take' 5 149 (listed' := #[true, true, true, true, true, true, false, false, false, false, false]) (v := ?v64) (t' := ?t64) rfl rfl (by kernel_rfl) (by rfl) ?hv64 (fun _ _ _ h => h) hS3 rfl ?ht64 ?rest64; (case hv64 => (intro W' hW'; obtain ⟨q0, q1⟩ := two_cells hW'; go_simp; try with_reducible rfl)); case ht64 => (simp only [List.setIfInBounds_toArray, List.set_cons_zero, List.set_cons_succ]; with_reducible rfl)
            refine held_take' 6 150 (listed' := #[true, true, true, true, true, true, true, false, false, false, false]) (v := ?v65) (t' := ?t65) rfl rfl (by kernel_rfl) (by rfl) ?hv65 (fun _ _ _ h => h) hS3 rfl ?ht65 ?rest65; (case hv65 => (intro W' hW'; obtain ⟨q0, q1⟩ := two_cells hW'; go_simp; try with_reducible rfl)); case ht65 => (simp only [List.setIfInBounds_toArray, List.set_cons_zero, List.set_cons_succ]; with_reducible rfl)
            refine held_one 7 rfl (by kernel_rfl) (by rfl) (fun K hK => ?_)
            go_simp
            have hx4 := al_new (w := V3) (o := .cells #[.slice none 0 0, .slice none 0 0] 36) rfl
            have hA4 := Chg.alloc [] V3 (.cells #[.slice none 0 0, .slice none 0 0] 36)
            have hS4 := hA4.heap hS3 (by simp)
            have hgx : wl.heap.size ≤ V3.heap.size := (((hA1.trans hA2).trans hA3)).size
            refine hK.out _ _ hS4 ?_
            clear hK K
            generalize V3.alloc (.cells #[.slice none 0 0, .slice none 0 0] 36) = V4 at hx4 hA4 hS4 ⊢
            generalize V3.heap.size = gx at hx4 hgx ⊢
            show wpAnyH _ _ _ _ _ _ #[true, true, true, true, true, true, true, true, false, false, false] _ _
            refine held_one 8 rfl (by kernel_rfl) (by rfl) (fun K hK => ?_)
            obtain ⟨r0, r1, f0, f1, HR2, HC2⟩ := store2 (.slice ua wZ.es.length uc) (.slice va wZ.gs.length vc) hx4
            have hC2 := HC2.out
            clear HR2 HC2
            have hS5 := hC2.heap hS4 (by rw [List.mem_singleton]; have := lt_of_block HB8.out; omega)
            have hcx : Chg [] wl _ := (((hA1.trans hA2).trans hA3).trans hA4).then hC2 (by intro j hj hlt; rw [List.mem_singleton] at hj; omega)
            obtain ⟨V5, hV5⟩ : ∃ W', (V4.setCell ⟨gx, 0, none⟩ (.slice ua wZ.es.length uc)).setCell ⟨gx, 1, none⟩ (.slice va wZ.gs.length vc) = W' := ⟨_, rfl⟩
            rw [hV5] at hS5 hcx
            clear hC2
            go_simp
            try rw [hV5]
            clear hV5
            refine hK.out _ _ hS5 ?_
            clear hK K
            show wpAnyH _ _ _ _ _ _ #[true, true, true, true, true, true, true, true, true, false, false] _ _
            refine held_take' 9 17 (listed' := #[true, true, true, true, true, true, true, true, true, true, false]) (v := ?v66) (t' := ?t66) rfl rfl (by kernel_rfl) (by rfl) ?hv66 (fun _ _ _ h => h) hS5 rfl ?ht66 ?rest66; (case hv66 => (intro W' hW'; obtain ⟨q0, q1⟩ := two_cells hW'; go_simp; try with_reducible rfl)); case ht66 => (simp only [List.setIfInBounds_toArray, List.set_cons_zero, List.set_cons_succ]; with_reducible rfl)
            refine held_take' 10 18 (listed' := #[true, true, true, true, true, true, true, true, true, true, true]) (v := ?v67) (t' := ?t67) rfl rfl (by kernel_rfl) (by rfl) ?hv67 (fun _ _ _ h => h) hS5 rfl ?ht67 ?rest67; (case hv67 => (intro W' hW'; obtain ⟨q0, q1⟩ := two_cells hW'; go_simp; try with_reducible rfl)); case ht67 => (simp only [List.setIfInBounds_toArray, List.set_cons_zero, List.set_cons_succ]; with_reducible rfl)
            refine wpAnyH_done (by kernel_rfl) ?_ _
            go_wp2_with (fail)
            go_meet
            exact ⟨rfl, hcx⟩
          · go_simp
            have hx3 := al_new (w := V2) (o := .cells #[.slice none 0 0, .slice none 0 0] 36) rfl
            have hA3 := Chg.alloc [] V2 (.cells #[.slice none 0 0, .slice none 0 0] 36)
            have hS3 := hA3.heap hS2 (by simp)
            have hgx : wl.heap.size ≤ V2.heap.size := ((hA1.trans hA2)).size
            refine hK.out _ _ hS3 ?_
            clear hK K
            generalize V2.alloc (.cells #[.slice none 0 0, .slice none 0 0] 36) = V3 at hx3 hA3 hS3 ⊢
            generalize V2.heap.size = gx at hx3 hgx ⊢
            show wpAnyH _ _ _ _ _ _ #[true, true, false, false, false, false, false, true, false, false, false] _ _
            refine held_one 2 rfl (by kernel_rfl) (by rfl) (fun K hK => ?_)
            go_simp
            refine (Add_to (d := wZ) V3 ve vg (wC 3) (HOW.out.rdc.keep1 ((hA1.trans hA2).trans hA3)) ⟨#[65]⟩ ⟨#[86, 49]⟩ 5 0 w_twice).mono ?_
            rintro e V4 ⟨ue, ug, ur, rfl, hoc, hor, hA4⟩
            obtain ⟨ua, uc, rfl⟩ := (RdK.of_own hoc.1).shape
            obtain ⟨va, vc, rfl⟩ := (RdK.of_own hoc.2).shape
            clear hoc hor
            have hx4 := hA4.heap hx3 (by simp)
            have hS4 := hA4.heap hS3 (by simp)
            refine hK.out _ _ hS4 ?_
            clear hK K
            show wpAnyH _ _ _ _ _ _ #[true, true, true, false, false, false, false, true, false, false, false] _ _
            refine held_take' 3 144 (listed' := #[true, true, true, true, false, false, false, true, false, false, false]) (v := ?v68) (t' := ?t68) rfl rfl (by kernel_rfl) (by rfl) ?hv68 (fun _ _ _ h => h) hS4 rfl ?ht68 ?rest68; (case hv68 => (intro W' hW'; obtain ⟨q0, q1⟩ := two_cells hW'; go_simp; try with_reducible rfl)); case ht68 => (simp only [List.setIfInBounds_toArray, List.set_cons_zero, List.set_cons_succ]; with_reducible rfl)
            refine held_take' 4 148 (listed' := #[true, true, true, true, true, false, false, true, false, false, false]) (v := ?v69) (t' := ?t69) rfl rfl (by kernel_rfl) (by rfl) ?hv69 (fun _ _ _ h => h) hS4 rfl ?ht69 ?rest69; (case hv69 => (intro W' hW'; obtain ⟨q0, q1⟩ := two_cells hW'; go_simp; try with_reducible rfl)); case ht69 => (simp only [List.setIfInBounds_toArray, List.set_cons_zero, List.set_cons_succ]; with_reducible rfl)
            refine held_take' 5 149 (listed' := #[true, true, true, true, true, true, false, true, false, false, false]) (v := ?v70) (t' := ?t70) rfl rfl (by kernel_rfl) (by rfl) ?hv70 (fun _ _ _ h => h) hS4 rfl ?ht70 ?rest70; (case hv70 => (intro W' hW'; obtain ⟨q0, q1⟩ := two_cells hW'; go_simp; try with_reducible rfl)); case ht70 => (simp only [List.setIfInBounds_toArray, List.set_cons_zero, List.set_cons_succ]; with_reducible rfl)
            refine held_take' 6 150 (listed' := #[true, true, true, true, true, true, true, true, false, false, false]) (v := ?v71) (t' := ?t71) rfl rfl (by kernel_rfl) (by rfl) ?hv71 (fun _ _ _ h => h) hS4 rfl ?ht71 ?rest71; (case hv71 => (intro W' hW'; obtain ⟨q0, q1⟩ := two_cells hW'; go_simp; try with_reducible rfl)); case ht71 => (simp only [List.setIfInBounds_toArray, List.set_cons_zero, List.set_cons_succ]; with_reducible rfl)
            refine held_one 8 rfl (by kernel_rfl) (by rfl) (fun K hK => ?_)
            obtain ⟨r0, r1, f0, f1, HR2, HC2⟩ := store2 (.slice ua wZ.es.length uc) (.slice va wZ.gs.length vc) hx4
            have hC2 := HC2.out
            clear HR2 HC2
            have hS5 := hC2.heap hS4 (by rw [List.mem_singleton]; have := lt_of_block HB8.out; omega)
            have hcx : Chg [] wl _ := (((hA1.trans hA2).trans hA3).trans hA4).then hC2 (by intro j hj hlt; rw [List.mem_singleton] at hj; omega)
            obtain ⟨V5, hV5⟩ : ∃ W', (V4.setCell ⟨gx, 0, none⟩ (.slice ua wZ.es.length uc)).setCell ⟨gx, 1, none⟩ (.slice va wZ.gs.length vc) = W' := ⟨_, rfl⟩
            rw [hV5] at hS5 hcx
            clear hC2
            go_simp
            try rw [hV5]
            clear hV5
            refine hK.out _ _ hS5 ?_
            clear hK K
            show wpAnyH _ _ _ _ _ _ #[true, true, true, true, true, true, true, true, true, false, false] _ _
            refine held_take' 9 17 (listed' := #[true, true, true, true, true, true, true, true, true, true, false]) (v := ?v72) (t' := ?t72) rfl rfl (by kernel_rfl) (by rfl) ?hv72 (fun _ _ _ h => h) hS5 rfl ?ht72 ?rest72; (case hv72 => (intro W' hW'; obtain ⟨q0, q1⟩ := two_cells hW'; go_simp; try with_reducible rfl)); case ht72 => (simp only [List.setIfInBounds_toArray, List.set_cons_zero, List.set_cons_succ]; with_reducible rfl)
            refine held_take' 10 18 (listed' := #[true, true, true, true, true, true, true, true, true, true, true]) (v := ?v73) (t' := ?t73) rfl rfl (by kernel_rfl) (by rfl) ?hv73 (fun _ _ _ h => h) hS5 rfl ?ht73 ?rest73; (case hv73 => (intro W' hW'; obtain ⟨q0, q1⟩ := two_cells hW'; go_simp; try with_reducible rfl)); case ht73 => (simp only [List.setIfInBounds_toArray, List.set_cons_zero, List.set_cons_succ]; with_reducible rfl)
            refine wpAnyH_done (by kernel_rfl) ?_ _
            go_wp2_with (fail)
            go_meet
            exact ⟨rfl, hcx⟩
        · go_simp
          have hx2 := al_new (w := V1) (o := .cells #[.slice none 0 0, .slice none 0 0] 36) rfl
          have hA2 := Chg.alloc [] V1 (.cells #[.slice none 0 0, .slice none 0 0] 36)
          have hS2 := hA2.heap hS1 (by simp)
          have hgx : wl.heap.size ≤ V1.heap.size := (hA1).size
          refine hK.out _ _ hS2 ?_
          clear hK K
          generalize V1.alloc (.cells #[.slice none 0 0, .slice none 0 0] 36) = V2 at hx2 hA2 hS2 ⊢
          generalize V1.heap.size = gx at hx2 hgx ⊢
          show wpAnyH _ _ _ _ _ _ #[true, false, false, false, false, false, false, true, false, false, false] _ _
          refine held_one 1 rfl (by kernel_rfl) (by rfl) (fun K hK => ?_)
          go_simp
          refine (disk_any V2 ⟨#[65]⟩).mono ?_
          rintro e V3 ⟨rfl, hA3⟩
          have hx3 := hA3.heap hx2 (by simp)
          have hS3 := hA3.heap hS2 (by simp)
          refine hK.out _ _ hS3 ?_
          clear hK K
          show wpAnyH _ _ _ _ _ _ #[true, true, false, false, false, false, false, true, false, false, false] _ _
          refine held_one 2 rfl (by kernel_rfl) (by rfl) (fun K hK => ?_)
          go_simp
          refine (Add_to (d := wZ) V3 ve vg (wC 3) (HOW.out.rdc.keep1 ((hA1.trans hA2).trans hA3)) ⟨#[65]⟩ ⟨#[86, 49]⟩ 5 0 w_twice).mono ?_
          rintro e V4 ⟨ue, ug, ur, rfl, hoc, hor, hA4⟩
          obtain ⟨ua, uc, rfl⟩ := (RdK.of_own hoc.1).shape
          obtain ⟨va, vc, rfl⟩ := (RdK.of_own hoc.2).shape
          clear hoc hor
          have hx4 := hA4.heap hx3 (by simp)
          have hS4 := hA4.heap hS3 (by simp)
          refine hK.out _ _ hS4 ?_
          clear hK K
          show wpAnyH _ _ _ _ _ _ #[true, true, true, false, false, false, false, true, false, false, false] _ _
          refine held_take' 3 144 (listed' := #[true, true, true, true, false, false, false, true, false, false, false]) (v := ?v74) (t' := ?t74) rfl rfl (by kernel_rfl) (by rfl) ?hv74 (fun _ _ _ h => h) hS4 rfl ?ht74 ?rest74; (case hv74 => (intro W' hW'; obtain ⟨q0, q1⟩ := two_cells hW'; go_simp; try with_reducible rfl)); case ht74 => (simp only [List.setIfInBounds_toArray, List.set_cons_zero, List.set_cons_succ]; with_reducible rfl)
          refine held_take' 4 148 (listed' := #[true, true, true, true, true, false, false, true, false, false, false]) (v := ?v75) (t' := ?t75) rfl rfl (by kernel_rfl) (by rfl) ?hv75 (fun _ _ _ h => h) hS4 rfl ?ht75 ?rest75; (case hv75 => (intro W' hW'; obtain ⟨q0, q1⟩ := two_cells hW'; go_simp; try with_reducible rfl)); case ht75 => (simp only [List.setIfInBounds_toArray, List.set_cons_zero, List.set_cons_succ]; with_reducible rfl)
          refine held_take' 5 149 (listed' := #[true, true, true, true, true, true, false, true, false, false, false]) (v := ?v76) (t' := ?t76) rfl rfl (by kernel_rfl) (by rfl) ?hv76 (fun _ _ _ h => h) hS4 rfl ?ht76 ?rest76; (case hv76 => (intro W' hW'; obtain ⟨q0, q1⟩ := two_cells hW'; go_simp; try with_reducible rfl)); case ht76 => (simp only [List.setIfInBounds_toArray, List.set_cons_zero, List.set_cons_succ]; with_reducible rfl)
          refine held_take' 6 150 (listed' := #[true, true, true, true, true, true, true, true, false, false, false]) (v := ?v77) (t' := ?t77) rfl rfl (by kernel_rfl) (by rfl) ?hv77 (fun _ _ _ h => h) hS4 rfl ?ht77 ?rest77; (case hv77 => (intro W' hW'; obtain ⟨q0, q1⟩ := two_cells hW'; go_simp; try with_reducible rfl)); case ht77 => (simp only [List.setIfInBounds_toArray, List.set_cons_zero, List.set_cons_succ]; with_reducible rfl)
          refine held_one 8 rfl (by kernel_rfl) (by rfl) (fun K hK => ?_)
          obtain ⟨r0, r1, f0, f1, HR2, HC2⟩ := store2 (.slice ua wZ.es.length uc) (.slice va wZ.gs.length vc) hx4
          have hC2 := HC2.out
          clear HR2 HC2
          have hS5 := hC2.heap hS4 (by rw [List.mem_singleton]; have := lt_of_block HB8.out; omega)
          have hcx : Chg [] wl _ := (((hA1.trans hA2).trans hA3).trans hA4).then hC2 (by intro j hj hlt; rw [List.mem_singleton] at hj; omega)
          obtain ⟨V5, hV5⟩ : ∃ W', (V4.setCell ⟨gx, 0, none⟩ (.slice ua wZ.es.length uc)).setCell ⟨gx, 1, none⟩ (.slice va wZ.gs.length vc) = W' := ⟨_, rfl⟩
          rw [hV5] at hS5 hcx
          clear hC2
          go_simp
          try rw [hV5]
          clear hV5
          refine hK.out _ _ hS5 ?_
          clear hK K
          show wpAnyH _ _ _ _ _ _ #[true, true, true, true, true, true, true, true, true, false, false] _ _
          refine held_take' 9 17 (listed' := #[true, true, true, true, true, true, true, true, true, true, false]) (v := ?v78) (t' := ?t78) rfl rfl (by kernel_rfl) (by rfl) ?hv78 (fun _ _ _ h => h) hS5 rfl ?ht78 ?rest78; (case hv78 => (intro W' hW'; obtain ⟨q0, q1⟩ := two_cells hW'; go_simp; try with_reducible rfl)); case ht78 => (simp only [List.setIfInBounds_toArray, List.set_cons_zero, List.set_cons_succ]; with_reducible rfl)
          refine held_take' 10 18 (listed' := #[true, true, true, true, true, true, true, true, true, true, true]) (v := ?v79) (t' := ?t79) rfl rfl (by kernel_rfl) (by rfl) ?hv79 (fun _ _ _ h => h) hS5 rfl ?ht79 ?rest79; (case hv79 => (intro W' hW'; obtain ⟨q0, q1⟩ := two_cells hW'; go_simp; try with_reducible rfl)); case ht79 => (simp only [List.setIfInBounds_toArray, List.set_cons_zero, List.set_cons_succ]; with_reducible rfl)
          refine wpAnyH_done (by kernel_rfl) ?_ _
          go_wp2_with (fail)
          go_meet
          exact ⟨rfl, hcx⟩
    case rest =>
      obtain ⟨rfl, hcx⟩ := hcut
      replace HB8 := hid (hcx.heap HB8.out (by simp))
      replace HOW := hid (HOW.out.keep1 hcx)
      replace HC := hid (HC.out.trans hcx)
      clear hcx
      go_upto_region 18 with (fail)
      obtain ⟨wl, hwl⟩ : ∃ W', wc = W' := ⟨_, rfl⟩
      rw [hwl] at HB8 HOW HC ⊢
      clear hwl
      go_cut [21] (fun sv W => sv = .int .i64 4 ∧ Chg [] wl W)
      case first =>
        as_aux_lemma =>
          refine region_held (S := fun w' => w'.heap[b8]? = some (.cells #[ve, vg] 36 (0, 0))) (by kernel_rfl) (n := 11) rfl (l := #[false, false, false, false, false, false, false, false, false, false, false]) rfl ?_
          obtain ⟨V1, hE1⟩ : ∃ W', wl.drew = W' := ⟨_, rfl⟩
          rw [hE1]
          have hA1 : Chg [] wl V1 := by rw [← hE1]; exact Chg.drew [] _
          have hS1 := hA1.heap HB8.out (by simp)
          clear hE1
          refine held_take' 0 152 (listed' := #[true, false, false, false, false, false, false, false, false, false, false]) (v := ?v80) (t' := ?t80) rfl rfl (by kernel_rfl) (by rfl) ?hv80 (fun _ _ _ h => h) hS1 rfl ?ht80 ?rest80; (case hv80 => (intro W' hW'; obtain ⟨q0, q1⟩ := two_cells hW'; go_simp; try with_reducible rfl)); case ht80 => (simp only [List.setIfInBounds_toArray, List.set_cons_zero, List.set_cons_succ]; with_reducible rfl)
          refine held_two 1 7 rfl rfl (by kernel_rfl) (by rfl) (by rfl) (fun K hK => ?_) (fun K hK => ?_)
          · go_simp
            refine (disk_any V1 ⟨#[65, 46, 71, 48, 48, 48, 53, 86, 48, 48]⟩).mono ?_
            rintro e V2 ⟨rfl, hA2⟩
            have hS2 := hA2.heap hS1 (by simp)
            refine hK.out _ _ hS2 ?_
            clear hK K
            show wpAnyH _ _ _ _ _ _ #[true, true, false, false, false, false, false, false, false, false, false] _ _
            refine held_two 2 7 rfl rfl (by kernel_rfl) (by rfl) (by rfl) (fun K hK => ?_) (fun K hK => ?_)
            · go_simp
              refine (Add_to (d := wZ) V2 ve vg (wC 3) (HOW.out.rdc.keep1 (hA1.trans hA2)) ⟨#[65, 46, 71, 48, 48, 48, 53, 86, 48, 48]⟩ ⟨#[86, 49]⟩ 5 0 w_again).mono ?_
              rintro e V3 ⟨ue, ug, ur, rfl, hoc, hor, hA3⟩
              obtain ⟨ua, uc, rfl⟩ := (RdK.of_own hoc.1).shape
              obtain ⟨va, vc, rfl⟩ := (RdK.of_own hoc.2).shape
              clear hoc hor
              have hS3 := hA3.heap hS2 (by simp)
              refine hK.out _ _ hS3 ?_
              clear hK K
              show wpAnyH _ _ _ _ _ _ #[true, true, true, false, false, false, false, false, false, false, false] _ _
              refine held_take' 3 151 (listed' := #[true, true, true, true, false, false, false, false, false, false, false]) (v := ?v81) (t' := ?t81) rfl rfl (by kernel_rfl) (by rfl) ?hv81 (fun _ _ _ h => h) hS3 rfl ?ht81 ?rest81; (case hv81 => (intro W' hW'; obtain ⟨q0, q1⟩ := two_cells hW'; go_simp; try with_reducible rfl)); case ht81 => (simp only [List.setIfInBounds_toArray, List.set_cons_zero, List.set_cons_succ]; with_reducible rfl)
              refine held_take' 4 155 (listed' := #[true, true, true, true, true, false, false, false, false, false, false]) (v := ?v82) (t' := ?t82) rfl rfl (by kernel_rfl) (by rfl) ?hv82 (fun _ _ _ h => h) hS3 rfl ?ht82 ?rest82; (case hv82 => (intro W' hW'; obtain ⟨q0, q1⟩ := two_cells hW'; go_simp; try with_reducible rfl)); case ht82 => (simp only [List.setIfInBounds_toArray, List.set_cons_zero, List.set_cons_succ]; with_reducible rfl)
              refine held_take' 5 156 (listed' := #[true, true, true, true, true, true, false, false, false, false, false]) (v := ?v83) (t' := ?t83) rfl rfl (by kernel_rfl) (by rfl) ?hv83 (fun _ _ _ h => h) hS3 rfl ?ht83 ?rest83; (case hv83 => (intro W' hW'; obtain ⟨q0, q1⟩ := two_cells hW'; go_simp; try with_reducible rfl)); case ht83 => (simp only [List.setIfInBounds_toArray, List.set_cons_zero, List.set_cons_succ]; with_reducible rfl)
              refine held_take' 6 157 (listed' := #[true, true, true, true, true, true, true, false, false, false, false]) (v := ?v84) (t' := ?t84) rfl rfl (by kernel_rfl) (by rfl) ?hv84 (fun _ _ _ h => h) hS3 rfl ?ht84 ?rest84; (case hv84 => (intro W' hW'; obtain ⟨q0, q1⟩ := two_cells hW'; go_simp; try with_reducible rfl)); case ht84 => (simp only [List.setIfInBounds_toArray, List.set_cons_zero, List.set_cons_succ]; with_reducible rfl)
              refine held_one 7 rfl (by kernel_rfl) (by rfl) (fun K hK => ?_)
              go_simp
              have hx4 := al_new (w := V3) (o := .cells #[.slice none 0 0, .slice none 0 0] 36) rfl
              have hA4 := Chg.alloc [] V3 (.cells #[.slice none 0 0, .slice none 0 0] 36)
              have hS4 := hA4.heap hS3 (by simp)
              have hgx : wl.heap.size ≤ V3.heap.size := (((hA1.trans hA2).trans hA3)).size
              refine hK.out _ _ hS4 ?_
              clear hK K
              generalize V3.alloc (.cells #[.slice none 0 0, .slice none 0 0] 36) = V4 at hx4 hA4 hS4 ⊢
              generalize V3.heap.size = gx at hx4 hgx ⊢
              show wpAnyH _ _ _ _ _ _ #[true, true, true, true, true, true, true, true, false, false, false] _ _
              refine held_one 8 rfl (by kernel_rfl) (by rfl) (fun K hK => ?_)
              obtain ⟨r0, r1, f0, f1, HR2, HC2⟩ := store2 (.slice ua wZ.es.length uc) (.slice va wZ.gs.length vc) hx4
              have hC2 := HC2.out
              clear HR2 HC2
              have hS5 := hC2.heap hS4 (by rw [List.mem_singleton]; have := lt_of_block HB8.out; omega)
              have hcx : Chg [] wl _ := (((hA1.trans hA2).trans hA3).trans hA4).then hC2 (by intro j hj hlt; rw [List.mem_singleton] at hj; omega)
              obtain ⟨V5, hV5⟩ : ∃ W', (V4.setCell ⟨gx, 0, none⟩ (.slice ua wZ.es.length uc)).setCell ⟨gx, 1, none⟩ (.slice va wZ.gs.length vc) = W' := ⟨_, rfl⟩
              rw [hV5] at hS5 hcx
              clear hC2
              go_simp
              try rw [hV5]
              clear hV5
              refine hK.out _ _ hS5 ?_
              clear hK K
              show wpAnyH _ _ _ _ _ _ #[true, true, true, true, true, true, true, true, true, false, false] _ _
              refine held_take' 9 20 (listed' := #[true, true, true, true, true, true, true, true, true, true, false]) (v := ?v85) (t' := ?t85) rfl rfl (by kernel_rfl) (by rfl) ?hv85 (fun _ _ _ h => h) hS5 rfl ?ht85 ?rest85; (case hv85 => (intro W' hW'; obtain ⟨q0, q1⟩ := two_cells hW'; go_simp; try with_reducible rfl)); case ht85 => (simp only [List.setIfInBounds_toArray, List.set_cons_zero, List.set_cons_succ]; with_reducible rfl)
              refine held_take' 10 21 (listed' := #[true, true, true, true, true, true, true, true, true, true, true]) (v := ?v86) (t' := ?t86) rfl rfl (by kernel_rfl) (by rfl) ?hv86 (fun _ _ _ h => h) hS5 rfl ?ht86 ?rest86; (case hv86 => (intro W' hW'; obtain ⟨q0, q1⟩ := two_cells hW'; go_simp; try with_reducible rfl)); case ht86 => (simp only [List.setIfInBounds_toArray, List.set_cons_zero, List.set_cons_succ]; with_reducible rfl)
              refine wpAnyH_done (by kernel_rfl) ?_ _
              go_wp2_with (fail)
              go_meet
              exact ⟨rfl, hcx⟩
            · go_simp
              have hx3 := al_new (w := V2) (o := .cells #[.slice none 0 0, .slice none 0 0] 36) rfl
              have hA3 := Chg.alloc [] V2 (.cells #[.slice none 0 0, .slice none 0 0] 36)
              have hS3 := hA3.heap hS2 (by simp)
              have hgx : wl.heap.size ≤ V2.heap.size := ((hA1.trans hA2)).size
              refine hK.out _ _ hS3 ?_
              clear hK K
              generalize V2.alloc (.cells #[.slice none 0 0, .slice none 0 0] 36) = V3 at hx3 hA3 hS3 ⊢
              generalize V2.heap.size = gx at hx3 hgx ⊢
              show wpAnyH _ _ _ _ _ _ #[true, true, false, false, false, false, false, true, false, false, false] _ _
              refine held_one 2 rfl (by kernel_rfl) (by rfl) (fun K hK => ?_)
              go_simp
              refine (Add_to (d := wZ) V3 ve vg (wC 3) (HOW.out.rdc.keep1 ((hA1.trans hA2).trans hA3)) ⟨#[65, 46, 71, 48, 48, 48, 53, 86, 48, 48]⟩ ⟨#[86, 49]⟩ 5 0 w_again).mono ?_
              rintro e V4 ⟨ue, ug, ur, rfl, hoc, hor, hA4⟩
              obtain ⟨ua, uc, rfl⟩ := (RdK.of_own hoc.1).shape
              obtain ⟨va, vc, rfl⟩ := (RdK.of_own hoc.2).shape
              clear hoc hor
              have hx4 := hA4.heap hx3 (by simp)
              have hS4 := hA4.heap hS3 (by simp)
              refine hK.out _ _ hS4 ?_
              clear hK K
              show wpAnyH _ _ _ _ _ _ #[true, true, true, false, false, false, false, true, false, false, false] _ _
              refine held_take' 3 151 (listed' := #[true, true, true, true, false, false, false, true, false, false, false]) (v := ?v87) (t' := ?t87) rfl rfl (by kernel_rfl) (by rfl) ?hv87 (fun _ _ _ h => h) hS4 rfl ?ht87 ?rest87; (case hv87 => (intro W' hW'; obtain ⟨q0, q1⟩ := two_cells hW'; go_simp; try with_reducible rfl)); case ht87 => (simp only [List.setIfInBounds_toArray, List.set_cons_zero, List.set_cons_succ]; with_reducible rfl)
              refine held_take' 4 155 (listed' := #[true, true, true, true, true, false, false, true, false, false, false]) (v := ?v88) (t' := ?t88) rfl rfl (by kernel_rfl) (by rfl) ?hv88 (fun _ _ _ h => h) hS4 rfl ?ht88 ?rest88; (case hv88 => (intro W' hW'; obtain ⟨q0, q1⟩ := two_cells hW'; go_simp; try with_reducible rfl)); case ht88 => (simp only [List.setIfInBounds_toArray, List.set_cons_zero, List.set_cons_succ]; with_reducible rfl)
              refine held_take' 5 156 (listed' := #[true, true, true, true, true, true, false, true, false, false, false]) (v := ?v89) (t' := ?t89) rfl rfl (by kernel_rfl) (by rfl) ?hv89 (fun _ _ _ h => h) hS4 rfl ?ht89 ?rest89; (case hv89 => (intro W' hW'; obtain ⟨q0, q1⟩ := two_cells hW'; go_simp; try with_reducible rfl)); case ht89 => (simp only [List.setIfInBounds_toArray, List.set_cons_zero, List.set_cons_succ]; with_reducible rfl)
              refine held_take' 6 157 (listed' := #[true, true, true, true, true, true, true, true, false, false, false]) (v := ?v90) (t' := ?t90) rfl rfl (by kernel_rfl) (by rfl) ?hv90 (fun _ _ _ h => h) hS4 rfl ?ht90 ?rest90; (case hv90 => (intro W' hW'; obtain ⟨q0, q1⟩ := two_cells hW'; go_simp; try with_reducible rfl)); case ht90 => (simp only [List.setIfInBounds_toArray, List.set_cons_zero, List.set_cons_succ]; with_reducible rfl)
              refine held_one 8 rfl (by kernel_rfl) (by rfl) (fun K hK => ?_)
              obtain ⟨r0, r1, f0, f1, HR2, HC2⟩ := store2 (.slice ua wZ.es.length uc) (.slice va wZ.gs.length vc) hx4
              have hC2 := HC2.out
              clear HR2 HC2
              have hS5 := hC2.heap hS4 (by rw [List.mem_singleton]; have := lt_of_block HB8.out; omega)
              have hcx : Chg [] wl _ := (((hA1.trans hA2).trans hA3).trans hA4).then hC2 (by intro j hj hlt; rw [List.mem_singleton] at hj; omega)
              obtain ⟨V5, hV5⟩ : ∃ W', (V4.setCell ⟨gx, 0, none⟩ (.slice ua wZ.es.length uc)).setCell ⟨gx, 1, none⟩ (.slice va wZ.gs.length vc) = W' := ⟨_, rfl⟩
              rw [hV5] at hS5 hcx
              clear hC2
              go_simp
              try rw [hV5]
              clear hV5
              refine hK.out _ _ hS5 ?_
              clear hK K
              show wpAnyH _ _ _ _ _ _ #[true, true, true, true, true, true, true, true, true, false, false] _ _
              refine held_take' 9 20 (listed' := #[true, true, true, true, true, true, true, true, true, true, false]) (v := ?v91) (t' := ?t91) rfl rfl (by kernel_rfl) (by rfl) ?hv91 (fun _ _ _ h => h) hS5 rfl ?ht91 ?rest91; (case hv91 => (intro W' hW'; obtain ⟨q0, q1⟩ := two_cells hW'; go_simp; try with_reducible rfl)); case ht91 => (simp only [List.setIfInBounds_toArray, List.set_cons_zero, List.set_cons_succ]; with_reducible rfl)
              refine held_take' 10 21 (listed' := #[true, true, true, true, true, true, true, true, true, true, true]) (v := ?v92) (t' := ?t92) rfl rfl (by kernel_rfl) (by rfl) ?hv92 (fun _ _ _ h => h) hS5 rfl ?ht92 ?rest92; (case hv92 => (intro W' hW'; obtain ⟨q0, q1⟩ := two_cells hW'; go_simp; try with_reducible rfl)); case ht92 => (simp only [List.setIfInBounds_toArray, List.set_cons_zero, List.set_cons_succ]; with_reducible rfl)
              refine wpAnyH_done (by kernel_rfl) ?_ _
              go_wp2_with (fail)
              go_meet
              exact ⟨rfl, hcx⟩
          · go_simp
            have hx2 := al_new (w := V1) (o := .cells #[.slice none 0 0, .slice none 0 0] 36) rfl
            have hA2 := Chg.alloc [] V1 (.cells #[.slice none 0 0, .slice none 0 0] 36)
            have hS2 := hA2.heap hS1 (by simp)
            have hgx : wl.heap.size ≤ V1.heap.size := (hA1).size
            refine hK.out _ _ hS2 ?_
            clear hK K
            generalize V1.alloc (.cells #[.slice none 0 0, .slice none 0 0] 36) = V2 at hx2 hA2 hS2 ⊢
            generalize V1.heap.size = gx at hx2 hgx ⊢
            show wpAnyH _ _ _ _ _ _ #[true, false, false, false, false, false, false, true, false, false, false] _ _
            refine held_one 1 rfl (by kernel_rfl) (by rfl) (fun K hK => ?_)
            go_simp
            refine (disk_any V2 ⟨#[65, 46, 71, 48, 48, 48, 53, 86, 48, 48]⟩).mono ?_
            rintro e V3 ⟨rfl, hA3⟩
            have hx3 := hA3.heap hx2 (by simp)
            have hS3 := hA3.heap hS2 (by simp)
            refine hK.out _ _ hS3 ?_
            clear hK K
            show wpAnyH _ _ _ _ _ _ #[true, true, false, false, false, false, false, true, false, false, false] _ _
            refine held_one 2 rfl (by kernel_rfl) (by rfl) (fun K hK => ?_)
            go_simp
            refine (Add_to (d := wZ) V3 ve vg (wC 3) (HOW.out.rdc.keep1 ((hA1.trans hA2).trans hA3)) ⟨#[65, 46, 71, 48, 48, 48, 53, 86, 48, 48]⟩ ⟨#[86, 49]⟩ 5 0 w_again).mono ?_
            rintro e V4 ⟨ue, ug, ur, rfl, hoc, hor, hA4⟩
            obtain ⟨ua, uc, rfl⟩ := (RdK.of_own hoc.1).shape
            obtain ⟨va, vc, rfl⟩ := (RdK.of_own hoc.2).shape
            clear hoc hor
            have hx4 := hA4.heap hx3 (by simp)
            have hS4 := hA4.heap hS3 (by simp)
            refine hK.out _ _ hS4 ?_
            clear hK K
            show wpAnyH _ _ _ _ _ _ #[true, true, true, false, false, false, false, true, false, false, false] _ _
            refine held_take' 3 151 (listed' := #[true, true, true, true, false, false, false, true, false, false, false]) (v := ?v93) (t' := ?t93) rfl rfl (by kernel_rfl) (by rfl) ?hv93 (fun _ _ _ h => h) hS4 rfl ?ht93 ?rest93; (case hv93 => (intro W' hW'; obtain ⟨q0, q1⟩ := two_cells hW'; go_simp; try with_reducible rfl)); case ht93 => (simp only [List.setIfInBounds_toArray, List.set_cons_zero, List.set_cons_succ]; with_reducible rfl)
            refine held_take' 4 155 (listed' := #[true, true, true, true, true, false, false, true, false, false, false]) (v := ?v94) (t' := ?t94) rfl rfl (by kernel_rfl) (by rfl) ?hv94 (fun _ _ _ h => h) hS4 rfl ?ht94 ?rest94; (case hv94 => (intro W' hW'; obtain ⟨q0, q1⟩ := two_cells hW'; go_simp; try with_reducible rfl)); case ht94 => (simp only [List.setIfInBounds_toArray, List.set_cons_zero, List.set_cons_succ]; with_reducible rfl)
            refine held_take' 5 156 (listed' := #[true, true, true, true, true, true, false, true, false, false, false]) (v := ?v95) (t' := ?t95) rfl rfl (by kernel_rfl) (by rfl) ?hv95 (fun _ _ _ h => h) hS4 rfl ?ht95 ?rest95; (case hv95 => (intro W' hW'; obtain ⟨q0, q1⟩ := two_cells hW'; go_simp; try with_reducible rfl)); case ht95 => (simp only [List.setIfInBounds_toArray, List.set_cons_zero, List.set_cons_succ]; with_reducible rfl)
            refine held_take' 6 157 (listed' := #[true, true, true, true, true, true, true, true, false, false, false]) (v := ?v96) (t' := ?t96) rfl rfl (by kernel_rfl) (by rfl) ?hv96 (fun _ _ _ h => h) hS4 rfl ?ht96 ?rest96; (case hv96 => (intro W' hW'; obtain ⟨q0, q1⟩ := two_cells hW'; go_simp; try with_reducible rfl)); case ht96 => (simp only [List.setIfInBounds_toArray, List.set_cons_zero, List.set_cons_succ]; with_reducible rfl)
            refine held_one 8 rfl (by kernel_rfl) (by rfl) (fun K hK => ?_)
            obtain ⟨r0, r1, f0, f1, HR2, HC2⟩ := store2 (.slice ua wZ.es.length uc) (.slice va wZ.gs.length vc) hx4
            have hC2 := HC2.out
            clear HR2 HC2
            have hS5 := hC2.heap hS4 (by rw [List.mem_singleton]; have := lt_of_block HB8.out; omega)
            have hcx : Chg [] wl _ := (((hA1.trans hA2).trans hA3).trans hA4).then hC2 (by intro j hj hlt; rw [List.mem_singleton] at hj; omega)
            obtain ⟨V5, hV5⟩ : ∃ W', (V4.setCell ⟨gx, 0, none⟩ (.slice ua wZ.es.length uc)).setCell ⟨gx, 1, none⟩ (.slice va wZ.gs.length vc) = W' := ⟨_, rfl⟩
            rw [hV5] at hS5 hcx
            clear hC2
            go_simp
            try rw [hV5]
            clear hV5
            refine hK.out _ _ hS5 ?_
            clear hK K
            show wpAnyH _ _ _ _ _ _ #[true, true, true, true, true, true, true, true, true, false, false] _ _
            refine held_take' 9 20 (listed' := #[true, true, true, true, true, true, true, true, true, true, false]) (v := ?v97) (t' := ?t97) rfl rfl (by kernel_rfl) (by rfl) ?hv97 (fun _ _ _ h => h) hS5 rfl ?ht97 ?rest97; (case hv97 => (intro W' hW'; obtain ⟨q0, q1⟩ := two_cells hW'; go_simp; try with_reducible rfl)); case ht97 => (simp only [List.setIfInBounds_toArray, List.set_cons_zero, List.set_cons_succ]; with_reducible rfl)
            refine held_take' 10 21 (listed' := #[true, true, true, true, true, true, true, true, true, true, true]) (v := ?v98) (t' := ?t98) rfl rfl (by kernel_rfl) (by rfl) ?hv98 (fun _ _ _ h => h) hS5 rfl ?ht98 ?rest98; (case hv98 => (intro W' hW'; obtain ⟨q0, q1⟩ := two_cells hW'; go_simp; try with_reducible rfl)); case ht98 => (simp only [List.setIfInBounds_toArray, List.set_cons_zero, List.set_cons_succ]; with_reducible rfl)
            refine wpAnyH_done (by kernel_rfl) ?_ _
            go_wp2_with (fail)
            go_meet
            exact ⟨rfl, hcx⟩
      case rest =>
        obtain ⟨rfl, hcx⟩ := hcut
        replace HB8 := hid (hcx.heap HB8.out (by simp))
        replace HOW := hid (HOW.out.keep1 hcx)
        replace HC := hid (HC.out.trans hcx)
        clear hcx
        go_upto_region 19 with (fail)
        obtain ⟨wl, hwl⟩ : ∃ W', wc = W' := ⟨_, rfl⟩
        rw [hwl] at HB8 HOW HC ⊢
        clear hwl
        go_cut [24] (fun sv W => sv = .int .i64 6 ∧ Chg [] wl W)
        case first =>
          as_aux_lemma =>
            refine region_held (S := fun w' => w'.heap[b8]? = some (.cells #[ve, vg] 36 (0, 0))) (by kernel_rfl) (n := 11) rfl (l := #[false, false, false, false, false, false, false, false, false, false, false]) rfl ?_
            obtain ⟨V1, hE1⟩ : ∃ W', wl.drew = W' := ⟨_, rfl⟩
            rw [hE1]
            have hA1 : Chg [] wl V1 := by rw [← hE1]; exact Chg.drew [] _
            have hS1 := hA1.heap HB8.out (by simp)
            clear hE1
            refine held_take' 0 159 (listed' := #[true, false, false, false, false, false, false, false, false, false, false]) (v := ?v99) (t' := ?t99) rfl rfl (by kernel_rfl) (by rfl) ?hv99 (fun _ _ _ h => h) hS1 rfl ?ht99 ?rest99; (case hv99 => (intro W' hW'; obtain ⟨q0, q1⟩ := two_cells hW'; go_simp; try with_reducible rfl)); case ht99 => (simp only [List.setIfInBounds_toArray, List.set_cons_zero, List.set_cons_succ]; with_reducible rfl)
            refine held_two 1 7 rfl rfl (by kernel_rfl) (by rfl) (by rfl) (fun K hK => ?_) (fun K hK => ?_)
            · go_simp
              refine (disk_any V1 ⟨#[65, 46, 71, 48, 48, 48, 50, 86, 48, 48]⟩).mono ?_
              rintro e V2 ⟨rfl, hA2⟩
              have hS2 := hA2.heap hS1 (by simp)
              refine hK.out _ _ hS2 ?_
              clear hK K
              show wpAnyH _ _ _ _ _ _ #[true, true, false, false, false, false, false, false, false, false, false] _ _
              refine held_two 2 7 rfl rfl (by kernel_rfl) (by rfl) (by rfl) (fun K hK => ?_) (fun K hK => ?_)
              · go_simp
                refine (Add_to (d := wZ) V2 ve vg (wC 3) (HOW.out.rdc.keep1 (hA1.trans hA2)) ⟨#[65, 46, 71, 48, 48, 48, 50, 86, 48, 48]⟩ ⟨#[86, 49]⟩ 5 0 w_old).mono ?_
                rintro e V3 ⟨ue, ug, ur, rfl, hoc, hor, hA3⟩
                obtain ⟨ua, uc, rfl⟩ := (RdK.of_own hoc.1).shape
                obtain ⟨va, vc, rfl⟩ := (RdK.of_own hoc.2).shape
                clear hoc hor
                have hS3 := hA3.heap hS2 (by simp)
                refine hK.out _ _ hS3 ?_
                clear hK K
                show wpAnyH _ _ _ _ _ _ #[true, true, true, false, false, false, false, false, false, false, false] _ _
                refine held_take' 3 158 (listed' := #[true, true, true, true, false, false, false, false, false, false, false]) (v := ?v100) (t' := ?t100) rfl rfl (by kernel_rfl) (by rfl) ?hv100 (fun _ _ _ h => h) hS3 rfl ?ht100 ?rest100; (case hv100 => (intro W' hW'; obtain ⟨q0, q1⟩ := two_cells hW'; go_simp; try with_reducible rfl)); case ht100 => (simp only [List.setIfInBounds_toArray, List.set_cons_zero, List.set_cons_succ]; with_reducible rfl)
                refine held_take' 4 162 (listed' := #[true, true, true, true, true, false, false, false, false, false, false]) (v := ?v101) (t' := ?t101) rfl rfl (by kernel_rfl) (by rfl) ?hv101 (fun _ _ _ h => h) hS3 rfl ?ht101 ?rest101; (case hv101 => (intro W' hW'; obtain ⟨q0, q1⟩ := two_cells hW'; go_simp; try with_reducible rfl)); case ht101 => (simp only [List.setIfInBounds_toArray, List.set_cons_zero, List.set_cons_succ]; with_reducible rfl)
                refine held_take' 5 163 (listed' := #[true, true, true, true, true, true, false, false, false, false, false]) (v := ?v102) (t' := ?t102) rfl rfl (by kernel_rfl) (by rfl) ?hv102 (fun _ _ _ h => h) hS3 rfl ?ht102 ?rest102; (case hv102 => (intro W' hW'; obtain ⟨q0, q1⟩ := two_cells hW'; go_simp; try with_reducible rfl)); case ht102 => (simp only [List.setIfInBounds_toArray, List.set_cons_zero, List.set_cons_succ]; with_reducible rfl)
                refine held_take' 6 164 (listed' := #[true, true, true, true, true, true, true, false, false, false, false]) (v := ?v103) (t' := ?t103) rfl rfl (by kernel_rfl) (by rfl) ?hv103 (fun _ _ _ h => h) hS3 rfl ?ht103 ?rest103; (case hv103 => (intro W' hW'; obtain ⟨q0, q1⟩ := two_cells hW'; go_simp; try with_reducible rfl)); case ht103 => (simp only [List.setIfInBounds_toArray, List.set_cons_zero, List.set_cons_succ]; with_reducible rfl)
                refine held_one 7 rfl (by kernel_rfl) (by rfl) (fun K hK => ?_)
                go_simp
                have hx4 := al_new (w := V3) (o := .cells #[.slice none 0 0, .slice none 0 0] 36) rfl
                have hA4 := Chg.alloc [] V3 (.cells #[.slice none 0 0, .slice none 0 0] 36)
                have hS4 := hA4.heap hS3 (by simp)
                have hgx : wl.heap.size ≤ V3.heap.size := (((hA1.trans hA2).trans hA3)).size
                refine hK.out _ _ hS4 ?_
                clear hK K
                generalize V3.alloc (.cells #[.slice none 0 0, .slice none 0 0] 36) = V4 at hx4 hA4 hS4 ⊢
                generalize V3.heap.size = gx at hx4 hgx ⊢
                show wpAnyH _ _ _ _ _ _ #[true, true, true, true, true, true, true, true, false, false, false] _ _
                refine held_one 8 rfl (by kernel_rfl) (by rfl) (fun K hK => ?_)
                obtain ⟨r0, r1, f0, f1, HR2, HC2⟩ := store2 (.slice ua wZ.es.length uc) (.slice va wZ.gs.length vc) hx4
                have hC2 := HC2.out
                clear HR2 HC2
                have hS5 := hC2.heap hS4 (by rw [List.mem_singleton]; have := lt_of_block HB8.out; omega)
                have hcx : Chg [] wl _ := (((hA1.trans hA2).trans hA3).trans hA4).then hC2 (by intro j hj hlt; rw [List.mem_singleton] at hj; omega)
                obtain ⟨V5, hV5⟩ : ∃ W', (V4.setCell ⟨gx, 0, none⟩ (.slice ua wZ.es.length uc)).setCell ⟨gx, 1, none⟩ (.slice va wZ.gs.length vc) = W' := ⟨_, rfl⟩
                rw [hV5] at hS5 hcx
                clear hC2
                go_simp
                try rw [hV5]
                clear hV5
                refine hK.out _ _ hS5 ?_
                clear hK K
                show wpAnyH _ _ _ _ _ _ #[true, true, true, true, true, true, true, true, true, false, false] _ _
                refine held_take' 9 23 (listed' := #[true, true, true, true, true, true, true, true, true, true, false]) (v := ?v104) (t' := ?t104) rfl rfl (by kernel_rfl) (by rfl) ?hv104 (fun _ _ _ h => h) hS5 rfl ?ht104 ?rest104; (case hv104 => (intro W' hW'; obtain ⟨q0, q1⟩ := two_cells hW'; go_simp; try with_reducible rfl)); case ht104 => (simp only [List.setIfInBounds_toArray, List.set_cons_zero, List.set_cons_succ]; with_reducible rfl)
                refine held_take' 10 24 (listed' := #[true, true, true, true, true, true, true, true, true, true, true]) (v := ?v105) (t' := ?t105) rfl rfl (by kernel_rfl) (by rfl) ?hv105 (fun _ _ _ h => h) hS5 rfl ?ht105 ?rest105; (case hv105 => (intro W' hW'; obtain ⟨q0, q1⟩ := two_cells hW'; go_simp; try with_reducible rfl)); case ht105 => (simp only [List.setIfInBounds_toArray, List.set_cons_zero, List.set_cons_succ]; with_reducible rfl)
                refine wpAnyH_done (by kernel_rfl) ?_ _
                go_wp2_with (fail)
                go_meet
                exact ⟨rfl, hcx⟩
              · go_simp
                have hx3 := al_new (w := V2) (o := .cells #[.slice none 0 0, .slice none 0 0] 36) rfl
                have hA3 := Chg.alloc [] V2 (.cells #[.slice none 0 0, .slice none 0 0] 36)
                have hS3 := hA3.heap hS2 (by simp)
                have hgx : wl.heap.size ≤ V2.heap.size := ((hA1.trans hA2)).size
                refine hK.out _ _ hS3 ?_
                clear hK K
                generalize V2.alloc (.cells #[.slice none 0 0, .slice none 0 0] 36) = V3 at hx3 hA3 hS3 ⊢
                generalize V2.heap.size = gx at hx3 hgx ⊢
                show wpAnyH _ _ _ _ _ _ #[true, true, false, false, false, false, false, true, false, false, false] _ _
                refine held_one 2 rfl (by kernel_rfl) (by rfl) (fun K hK => ?_)
                go_simp
                refine (Add_to (d := wZ) V3 ve vg (wC 3) (HOW.out.rdc.keep1 ((hA1.trans hA2).trans hA3)) ⟨#[65, 46, 71, 48, 48, 48, 50, 86, 48, 48]⟩ ⟨#[86, 49]⟩ 5 0 w_old).mono ?_
                rintro e V4 ⟨ue, ug, ur, rfl, hoc, hor, hA4⟩
                obtain ⟨ua, uc, rfl⟩ := (RdK.of_own hoc.1).shape
                obtain ⟨va, vc, rfl⟩ := (RdK.of_own hoc.2).shape
                clear hoc hor
                have hx4 := hA4.heap hx3 (by simp)
                have hS4 := hA4.heap hS3 (by simp)
                refine hK.out _ _ hS4 ?_
                clear hK K
                show wpAnyH _ _ _ _ _ _ #[true, true, true, false, false, false, false, true, false, false, false] _ _
                refine held_take' 3 158 (listed' := #[true, true, true, true, false, false, false, true, false, false, false]) (v := ?v106) (t' := ?t106) rfl rfl (by kernel_rfl) (by rfl) ?hv106 (fun _ _ _ h => h) hS4 rfl ?ht106 ?rest106; (case hv106 => (intro W' hW'; obtain ⟨q0, q1⟩ := two_cells hW'; go_simp; try with_reducible rfl)); case ht106 => (simp only [List.setIfInBounds_toArray, List.set_cons_zero, List.set_cons_succ]; with_reducible rfl)
                refine held_take' 4 162 (listed' := #[true, true, true, true, true, false, false, true, false, false, false]) (v := ?v107) (t' := ?t107) rfl rfl (by kernel_rfl) (by rfl) ?hv107 (fun _ _ _ h => h) hS4 rfl ?ht107 ?rest107; (case hv107 => (intro W' hW'; obtain ⟨q0, q1⟩ := two_cells hW'; go_simp; try with_reducible rfl)); case ht107 => (simp only [List.setIfInBounds_toArray, List.set_cons_zero, List.set_cons_succ]; with_reducible rfl)
                refine held_take' 5 163 (listed' := #[true, true, true, true, true, true, false, true, false, false, false]) (v := ?v108) (t' := ?t108) rfl rfl (by kernel_rfl) (by rfl) ?hv108 (fun _ _ _ h => h) hS4 rfl ?ht108 ?rest108; (case hv108 => (intro W' hW'; obtain ⟨q0, q1⟩ := two_cells hW'; go_simp; try with_reducible rfl)); case ht108 => (simp only [List.setIfInBounds_toArray, List.set_cons_zero, List.set_cons_succ]; with_reducible rfl)
                refine held_take' 6 164 (listed' := #[true, true, true, true, true, true, true, true, false, false, false]) (v := ?v109) (t' := ?t109) rfl rfl (by kernel_rfl) (by rfl) ?hv109 (fun _ _ _ h => h) hS4 rfl ?ht109 ?rest109; (case hv109 => (intro W' hW'; obtain ⟨q0, q1⟩ := two_cells hW'; go_simp; try with_reducible rfl)); case ht109 => (simp only [List.setIfInBounds_toArray, List.set_cons_zero, List.set_cons_succ]; with_reducible rfl)
                refine held_one 8 rfl (by kernel_rfl) (by rfl) (fun K hK => ?_)
                obtain ⟨r0, r1, f0, f1, HR2, HC2⟩ := store2 (.slice ua wZ.es.length uc) (.slice va wZ.gs.length vc) hx4
                have hC2 := HC2.out
                clear HR2 HC2
                have hS5 := hC2.heap hS4 (by rw [List.mem_singleton]; have := lt_of_block HB8.out; omega)
                have hcx : Chg [] wl _ := (((hA1.trans hA2).trans hA3).trans hA4).then hC2 (by intro j hj hlt; rw [List.mem_singleton] at hj; omega)
                obtain ⟨V5, hV5⟩ : ∃ W', (V4.setCell ⟨gx, 0, none⟩ (.slice ua wZ.es.length uc)).setCell ⟨gx, 1, none⟩ (.slice va wZ.gs.length vc) = W' := ⟨_, rfl⟩
                rw [hV5] at hS5 hcx
                clear hC2
                go_simp
                try rw [hV5]
                clear hV5
                refine hK.out _ _ hS5 ?_
                clear hK K
                show wpAnyH _ _ _ _ _ _ #[true, true, true, true, true, true, true, true, true, false, false] _ _
                refine held_take' 9 23 (listed' := #[true, true, true, true, true, true, true, true, true, true, false]) (v := ?v110) (t' := ?t110) rfl rfl (by kernel_rfl) (by rfl) ?hv110 (fun _ _ _ h => h) hS5 rfl ?ht110 ?rest110; (case hv110 => (intro W' hW'; obtain ⟨q0, q1⟩ := two_cells hW'; go_simp; try with_reducible rfl)); case ht110 => (simp only [List.setIfInBounds_toArray, List.set_cons_zero, List.set_cons_succ]; with_reducible rfl)
                refine held_take' 10 24 (listed' := #[true, true, true, true, true, true, true, true, true, true, true]) (v := ?v111) (t' := ?t111) rfl rfl (by kernel_rfl) (by rfl) ?hv111 (fun _ _ _ h => h) hS5 rfl ?ht111 ?rest111; (case hv111 => (intro W' hW'; obtain ⟨q0, q1⟩ := two_cells hW'; go_simp; try with_reducible rfl)); case ht111 => (simp only [List.setIfInBounds_toArray, List.set_cons_zero, List.set_cons_succ]; with_reducible rfl)
                refine wpAnyH_done (by kernel_rfl) ?_ _
                go_wp2_with (fail)
                go_meet
                exact ⟨rfl, hcx⟩
            · go_simp
              have hx2 := al_new (w := V1) (o := .cells #[.slice none 0 0, .slice none 0 0] 36) rfl
              have hA2 := Chg.alloc [] V1 (.cells #[.slice none 0 0, .slice none 0 0] 36)
              have hS2 := hA2.heap hS1 (by simp)
              have hgx : wl.heap.size ≤ V1.heap.size := (hA1).size
              refine hK.out _ _ hS2 ?_
              clear hK K
              generalize V1.alloc (.cells #[.slice none 0 0, .slice none 0 0] 36) = V2 at hx2 hA2 hS2 ⊢
              generalize V1.heap.size = gx at hx2 hgx ⊢
              show wpAnyH _ _ _ _ _ _ #[true, false, false, false, false, false, false, true, false, false, false] _ _
              refine held_one 1 rfl (by kernel_rfl) (by rfl) (fun K hK => ?_)
              go_simp
              refine (disk_any V2 ⟨#[65, 46, 71, 48, 48, 48, 50, 86, 48, 48]⟩).mono ?_
              rintro e V3 ⟨rfl, hA3⟩
              have hx3 := hA3.heap hx2 (by simp)
              have hS3 := hA3.heap hS2 (by simp)
              refine hK.out _ _ hS3 ?_
              clear hK K
              show wpAnyH _ _ _ _ _ _ #[true, true, false, false, false, false, false, true, false, false, false] _ _
              refine held_one 2 rfl (by kernel_rfl) (by rfl) (fun K hK => ?_)
              go_simp
              refine (Add_to (d := wZ) V3 ve vg (wC 3) (HOW.out.rdc.keep1 ((hA1.trans hA2).trans hA3)) ⟨#[65, 46, 71, 48, 48, 48, 50, 86, 48, 48]⟩ ⟨#[86, 49]⟩ 5 0 w_old).mono ?_
              rintro e V4 ⟨ue, ug, ur, rfl, hoc, hor, hA4⟩
              obtain ⟨ua, uc, rfl⟩ := (RdK.of_own hoc.1).shape
              obtain ⟨va, vc, rfl⟩ := (RdK.of_own hoc.2).shape
              clear hoc hor
              have hx4 := hA4.heap hx3 (by simp)
              have hS4 := hA4.heap hS3 (by simp)
              refine hK.out _ _ hS4 ?_
              clear hK K
              show wpAnyH _ _ _ _ _ _ #[true, true, true, false, false, false, false, true, false, false, false] _ _
              refine held_take' 3 158 (listed' := #[true, true, true, true, false, false, false, true, false, false, false]) (v := ?v112) (t' := ?t112) rfl rfl (by kernel_rfl) (by rfl) ?hv112 (fun _ _ _ h => h) hS4 rfl ?ht112 ?rest112; (case hv112 => (intro W' hW'; obtain ⟨q0, q1⟩ := two_cells hW'; go_simp; try with_reducible rfl)); case ht112 => (simp only [List.setIfInBounds_toArray, List.set_cons_zero, List.set_cons_succ]; with_reducible rfl)
              refine held_take' 4 162 (listed' := #[true, true, true, true, true, false, false, true, false, false, false]) (v := ?v113) (t' := ?t113) rfl rfl (by kernel_rfl) (by rfl) ?hv113 (fun _ _ _ h => h) hS4 rfl ?ht113 ?rest113; (case hv113 => (intro W' hW'; obtain ⟨q0, q1⟩ := two_cells hW'; go_simp; try with_reducible rfl)); case ht113 => (simp only [List.setIfInBounds_toArray, List.set_cons_zero, List.set_cons_succ]; with_reducible rfl)
              refine held_take' 5 163 (listed' := #[true, true, true, true, true, true, false, true, false, false, false]) (v := ?v114) (t' := ?t114) rfl rfl (by kernel_rfl) (by rfl) ?hv114 (fun _ _ _ h => h) hS4 rfl ?ht114 ?rest114; (case hv114 => (intro W' hW'; obtain ⟨q0, q1⟩ := two_cells hW'; go_simp; try with_reducible rfl)); case ht114 => (simp only [List.setIfInBounds_toArray, List.set_cons_zero, List.set_cons_succ]; with_reducible rfl)
              refine held_take' 6 164 (listed' := #[true, true, true, true, true, true, true, true, false, false, false]) (v := ?v115) (t' := ?t115) rfl rfl (by kernel_rfl) (by rfl) ?hv115 (fun _ _ _ h => h) hS4 rfl ?ht115 ?rest115; (case hv115 => (intro W' hW'; obtain ⟨q0, q1⟩ := two_cells hW'; go_simp; try with_reducible rfl)); case ht115 => (simp only [List.setIfInBounds_toArray, List.set_cons_zero, List.set_cons_succ]; with_reducible rfl)
              refine held_one 8 rfl (by kernel_rfl) (by rfl) (fun K hK => ?_)
              obtain ⟨r0, r1, f0, f1, HR2, HC2⟩ := store2 (.slice ua wZ.es.length uc) (.slice va wZ.gs.length vc) hx4
              have hC2 := HC2.out
              clear HR2 HC2
              have hS5 := hC2.heap hS4 (by rw [List.mem_singleton]; have := lt_of_block HB8.out; omega)
              have hcx : Chg [] wl _ := (((hA1.trans hA2).trans hA3).trans hA4).then hC2 (by intro j hj hlt; rw [List.mem_singleton] at hj; omega)
              obtain ⟨V5, hV5⟩ : ∃ W', (V4.setCell ⟨gx, 0, none⟩ (.slice ua wZ.es.length uc)).setCell ⟨gx, 1, none⟩ (.slice va wZ.gs.length vc) = W' := ⟨_, rfl⟩
              rw [hV5] at hS5 hcx
              clear hC2
              go_simp
              try rw [hV5]
              clear hV5
              refine hK.out _ _ hS5 ?_
              clear hK K
              show wpAnyH _ _ _ _ _ _ #[true, true, true, true, true, true, true, true, true, false, false] _ _
              refine held_take' 9 23 (listed' := #[true, true, true, true, true, true, true, true, true, true, false]) (v := ?v116) (t' := ?t116) rfl rfl (by kernel_rfl) (by rfl) ?hv116 (fun _ _ _ h => h) hS5 rfl ?ht116 ?rest116; (case hv116 => (intro W' hW'; obtain ⟨q0, q1⟩ := two_cells hW'; go_simp; try with_reducible rfl)); case ht116 => (simp only [List.setIfInBounds_toArray, List.set_cons_zero, List.set_cons_succ]; with_reducible rfl)
              refine held_take' 10 24 (listed' := #[true, true, true, true, true, true, true, true, true, true, true]) (v := ?v117) (t' := ?t117) rfl rfl (by kernel_rfl) (by rfl) ?hv117 (fun _ _ _ h => h) hS5 rfl ?ht117 ?rest117; (case hv117 => (intro W' hW'; obtain ⟨q0, q1⟩ := two_cells hW'; go_simp; try with_reducible rfl)); case ht117 => (simp only [List.setIfInBounds_toArray, List.set_cons_zero, List.set_cons_succ]; with_reducible rfl)
              refine wpAnyH_done (by kernel_rfl) ?_ _
              go_wp2_with (fail)
              go_meet
              exact ⟨rfl, hcx⟩
        case rest =>
          obtain ⟨rfl, hcx⟩ := hcut
          replace HB8 := hid (hcx.heap HB8.out (by simp))
          replace HOW := hid (HOW.out.keep1 hcx)
          replace HC := hid (HC.out.trans hcx)
          clear hcx
          have hc := HC.out
          clear HB8 HOW
          have HE0 := hid encode_nil
          have HE1 := hid encode_one
          go_wp2_with (first
            | (go_at_call 35; ((with_reducible refine (HE0.out _).mono ?_); rintro e W20 ⟨u20, rfl, ho20, hcn⟩; replace hc := hc.trans hcn; have HO20 := hid ho20; clear hcn ho20))
            | (go_at_call 22; ((with_reducible refine (disk_any _ _).mono ?_); rintro e W21 ⟨rfl, hcn⟩; replace hc := hc.trans hcn; replace HO20 := hid (HO20.out.keep1 hcn); clear hcn))
            | (go_at_call 35; ((with_reducible refine (HE1.out _).mono ?_); rintro e W22 ⟨u22, rfl, ho22, hcn⟩; replace hc := (hc.trans (Chg.alloc [] _ _)).trans hcn; replace HO20 := hid ((HO20.out.keep1 (Chg.alloc [] _ _)).keep1 hcn); have cv1 := (HO20.out.reads).str (P := Tryd.prog) 22 9 5 Tryd.underlying22 Tryd.underlying5 Tryd.underlying9; have cv2 := (ho22.reads).str (P := Tryd.prog) 22 9 5 Tryd.underlying22 Tryd.underlying5 Tryd.underlying9; clear hcn ho22)))
          go_ret
          exact ⟨rfl, hc⟩

end Go.Proofs.YtldkmclfhjcicaaDoor
