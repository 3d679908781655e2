import Derived.Test.YtldkmclfhjcicaaGreatDoorProg
import Derived.Test.YtldkmclfhjcicaaGreatDoorCByF
import Derived.Test.YtldkmclfhjcicaaGreatDoorCCheck
import Derived.Test.YtldkmclfhjcicaaGreatDoorFr
import Derived.WalkSpells
import Derived.Outline
namespace Go.Proofs.YtldkmclfhjcicaaGreatDoor
open Go.RowKit
set_option linter.unusedVariables false
set_option linter.unusedSimpArgs false

section
variable {P : Program} {ops : Array Oper} {Q : Exit → Act → World → Prop} {md : Region.Mode} {S : World → Prop}
theorem held_two (i j : Nat) {oi oj : Oper} {fuel : Nat} {listed : Array Bool} {a : Act} {w : World} (hi : ops[i]? = some oi) (hj : ops[j]? = some oj) (hr : Region.ready md ops listed = [i, j]) (hwi : Region.wanted oi (yielded ops a.tmps) = true) (hwj : Region.wanted oj (yielded ops a.tmps) = true)
    (h1 : ∀ K : Act → World → Prop, Shut (∀ a w, S w → wpAnyH P md ops Q S fuel (listed.setIfInBounds i true) a w → K a w) → Oper.wp P oi a w K Q)
    (h2 : ∀ K : Act → World → Prop, Shut (∀ a w, S w → wpAnyH P md ops Q S fuel (listed.setIfInBounds j true) a w → K a w) → Oper.wp P oj a w K Q) : wpAnyH P md ops Q S (fuel + 1) listed a w :=
  wpAnyH_all hr (by simp) (fun k hk => by
    unfold wpOp
    rcases List.mem_cons.1 hk with rfl | hk
    · simp only [hi, hwi, if_true]
      exact .inl (h1 _ (fun a w hS h => ⟨hS, h⟩))
    · obtain rfl := List.mem_singleton.1 hk
      simp only [hj, hwj, if_true]
      exact .inl (h2 _ (fun a w hS h => ⟨hS, h⟩)))
end
theorem apBw {o : Oper} {a : Act} {K : Act → World → Prop} {Q : Exit → Act → World → Prop} {W : World} (s x : Operand)
    (ho : o.op = .call { callee := .builtin .append, args := #[s, x], argTypes := #[27, 27] }) (B m : Nat) (news : List Value) (bs : Bs) (hnb : news = bs.map eb) (hm : bs.length = m)
    {v : Value} {l : Bs} (hown : OwY W B v l) (hs : a.eval s = v) (g0 : Nat) (hblk : W.heap[g0]? = some (.cells news.toArray 5 (0, 0))) (hx : a.eval x = .slice (some ⟨g0, 0, none⟩) m m)
    (hn : l.length + m ≤ 1000000000) (hB : B ≤ W.heap.size)
    (h : ∀ v' w', OwY w' B v' (l ++ bs) → Chg (own v) W w' → K (a.put o.dst v') w') : Oper.wp Tryz.prog o a W K Q := by
  subst hnb hm
  obtain ⟨i, h1, h2, h3, h4⟩ := info_parts info_byte
  refine wp_append_own _ s x 27 ho B 5 i _ 1 1 Tryz.underlying27 h1 h2 h3 h4 rfl (by decide) v l.length (l.map eb) hs hown ⟨g0, 0, none⟩ bs.length bs.length (bs.map eb) hx (by simp) ?_ (eb_one bs) (by unfold maxLen; omega) (by omega) hB ?_
  · intro j u hj
    rw [add_at, Nat.zero_add, cell_of_row _ _ j _ _ (0, 0) hblk]
    simpa using hj
  · intro v' w' ho' hg _
    refine h v' w' ?_ ⟨hg.os, hg.tape, hg.output, hg.size, fun k hk hkn => hg.block k hk (fun e => hkn (by simp [own, ← e]))⟩
    unfold OwY
    rw [List.length_append, List.map_append]; exact ho'

theorem wrap_u8' (n : Int) : IntKind.u8.wrap n = n % 256 := by first | rfl | (simp [IntKind.wrap, IntKind.bits, IntKind.signed]; done) | (unfold IntKind.wrap; simp [IntKind.signed, IntKind.bits])
def encK (es : List Ent) (k : Nat) : Bs := twoB (es.length : Int) ++ (es.take k).flatMap encEnt
def encGK (c : Cat) (k : Nat) : Bs := twoB (c.es.length : Int) ++ c.es.flatMap encEnt ++ twoB (c.gs.length : Int) ++ (c.gs.take k).flatMap encGrp
theorem encK_zero (es : List Ent) : encK es 0 = twoB (es.length : Int) := by unfold encK; simp
theorem encGK_zero (c : Cat) : encGK c 0 = encK c.es c.es.length ++ twoB (c.gs.length : Int) := by unfold encGK encK; simp
theorem encGK_all (c : Cat) : encGK c c.gs.length = encC c := by unfold encGK encC; simp
theorem encK_succ {es : List Ent} {k : Nat} (h : k < es.length) : encK es (k + 1) = encK es k ++ encEnt (es.getD k default) := by
  unfold encK; rw [take_getD h, List.flatMap_append]; simp
theorem encGK_succ {c : Cat} {k : Nat} (h : k < c.gs.length) : encGK c (k + 1) = encGK c k ++ encGrp (c.gs.getD k default) := by
  unfold encGK; rw [take_getD h, List.flatMap_append]; simp
theorem flat_le {α : Type} (f : α → Bs) (m : Nat) : ∀ l : List α, (∀ x ∈ l, (f x).length ≤ m) → (l.flatMap f).length ≤ l.length * m
  | [], _ => by simp
  | x :: t, h => by
    rw [List.flatMap_cons, List.length_append, List.length_cons, Nat.succ_mul]
    have h1 := h x List.mem_cons_self
    have h2 := flat_le f m t (fun y hy => h y (List.mem_cons_of_mem _ hy))
    omega
theorem entOk_le {e : Ent} (h : entOk e = true) : e.name.length ≤ 44 ∧ e.serial.length ≤ 6 ∧ (e.unit = 4 ∨ e.unit = 5) ∧ 0 ≤ e.file ∧ e.file ≤ 4096 := by
  unfold entOk nameOk at h
  simp only [Bool.and_eq_true, Bool.or_eq_true, decide_eq_true_eq] at h
  obtain ⟨⟨⟨h1, _⟩, ⟨_, h2⟩, _⟩, h3⟩ := h
  refine ⟨h1, h2, ?_, ?_, ?_⟩ <;> omega
theorem encEnt_len {e : Ent} (h : entOk e = true) : (encEnt e).length ≤ 60 := by
  obtain ⟨h1, h2, _⟩ := entOk_le h
  unfold encEnt twoB; simp; omega
theorem encGrp_len {g : Grp} (h : grpOk g = true) : (encGrp g).length ≤ 60 := by
  obtain ⟨_, h1, _⟩ := grpOk_parts h
  unfold encGrp; simp; omega
theorem encK_len {es : List Ent} {k : Nat} (h : es.all entOk = true) (hL : es.length ≤ 256) : 2 ≤ (encK es k).length ∧ (encK es k).length ≤ 20000 := by
  unfold encK
  have := flat_le encEnt 60 (es.take k) (fun x hx => encEnt_len (List.all_eq_true.1 h x (List.mem_of_mem_take hx)))
  rw [List.length_take] at this
  rw [List.length_append, show (twoB (es.length : Int)).length = 2 from rfl]
  omega
theorem encGK_len {c : Cat} {k : Nat} (h : c.es.all entOk = true) (hg : c.gs.all grpOk = true) (hL : c.es.length ≤ 256) (hM : c.gs.length ≤ 32) : 2 ≤ (encGK c k).length ∧ (encGK c k).length ≤ 30000 := by
  have h1 := flat_le encEnt 60 c.es (fun x hx => encEnt_len (List.all_eq_true.1 h x hx))
  have h2 := flat_le encGrp 60 (c.gs.take k) (fun x hx => encGrp_len (List.all_eq_true.1 hg x (List.mem_of_mem_take hx)))
  rw [List.length_take] at h2
  unfold encGK
  rw [List.length_append, List.length_append, List.length_append, show (twoB (c.es.length : Int)).length = 2 from rfl, show (twoB (c.gs.length : Int)).length = 2 from rfl]
  omega

set_option maxHeartbeats 32000000 in
set_option maxRecDepth 100000 in
theorem Encode_bad (w : World) (ve vg : Value) (c : Cat) (hv : RdC w ve vg c) (hvc : validC c = false) : Calls Tryz.prog 13 #[.agg #[ve, vg]] w fun e w' =>
    e = .returned (.tuple #[.slice none 0 0, .int .i64 1]) ∧ Chg [] w w' := by
  obtain ⟨W0, hW0⟩ : ∃ W0, w.alloc (.cells #[ve, vg] 25) = W0 := ⟨_, rfl⟩
  have hbx : W0.heap[w.heap.size]? = some (.cells #[ve, vg] 25 (0, 0)) := by rw [← hW0]; exact al_new rfl
  have hw0 : Chg [] w W0 := by rw [← hW0]; exact Chg.alloc _ _ _
  have hk := Check_any W0 ve vg c (hv.keep1 hw0)
  rw [hvc] at hk
  have HK := hid hk
  have HW0 := hid hW0
  have HB := hid hbx
  clear hv hk hW0 hbx hvc
  go_enter Tryz.func13, Tryz.ntmps13
  go_wp2_with (go_at_call 16; rw [HW0.out]; refine HK.out.mono ?_; rintro e W1 ⟨rfl, hc1⟩; obtain ⟨b0, b1⟩ := two_cells (hc1.heap HB.out (by simp)))
  go_ret2
  exact ⟨rfl, hw0.trans hc1⟩

set_option maxHeartbeats 32000000 in
set_option maxRecDepth 100000 in
theorem Encode_good (w : World) (ve vg : Value) (c : Cat) (hv : RdC w ve vg c) (hvc : validC c = true) : Calls Tryz.prog 13 #[.agg #[ve, vg]] w fun e w' =>
    ∃ u, e = .returned (.tuple #[u, .int .i64 0]) ∧ OwY w' w.heap.size u (encC c) ∧ Chg [] w w' := by
  have hve := hv.1
  have hvg := hv.2
  obtain ⟨a1, a2, a3, a4, a5, a6, a7⟩ := validC_all hvc
  obtain ⟨W0, hW0⟩ : ∃ W0, w.alloc (.cells #[ve, vg] 25) = W0 := ⟨_, rfl⟩
  have hbx : W0.heap[w.heap.size]? = some (.cells #[ve, vg] 25 (0, 0)) := by rw [← hW0]; exact al_new rfl
  have hw0 : Chg [] w W0 := by rw [← hW0]; exact Chg.alloc _ _ _
  have hk := Check_any W0 ve vg c (hv.keep1 hw0)
  rw [hvc] at hk
  obtain ⟨L, hL⟩ : ∃ L, c.es.length = L := ⟨_, rfl⟩
  obtain ⟨M, hM⟩ : ∃ M, c.gs.length = M := ⟨_, rfl⟩
  rw [hL] at a1
  rw [hM] at a2
  have HLEN := hid (fun k => encK_len (k := k) a3 (by rw [hL]; exact a1))
  have HLENG := hid (fun k => encGK_len (c := c) (k := k) a3 a5 (by rw [hL]; exact a1) (by rw [hM]; exact a2))
  have HOK : Hid (∀ k, k < L → entOk (c.es.getD k default) = true) := fun k hk => List.all_eq_true.1 a3 _ (getD_mem' (by omega))
  have HOKG : Hid (∀ k, k < M → grpOk (c.gs.getD k default) = true) := fun k hk => List.all_eq_true.1 a5 _ (getD_mem' (by omega))
  have HSE : Hid (∀ k, k < L → encK c.es (k + 1) = encK c.es k ++ encEnt (c.es.getD k default)) := fun k hk => encK_succ (by omega)
  have HSG : Hid (∀ k, k < M → encGK c (k + 1) = encGK c k ++ encGrp (c.gs.getD k default)) := fun k hk => encGK_succ (by omega)
  have HZ : Hid (encK c.es 0 = twoB (L : Int)) := hid (by rw [encK_zero, hL])
  have HZG : Hid (encGK c 0 = encK c.es L ++ twoB (M : Int)) := hid (by rw [encGK_zero, hL, hM])
  have HALL : Hid (encGK c M = encC c) := hid (by rw [← hM]; exact encGK_all c)
  have hpart := hve.parts hL
  obtain ⟨ea, ec, rfl, HC⟩ : ∃ ea ec, ve = .slice ea L ec ∧ Hid (∀ i, i < L → ∃ bb off, ea = some ⟨bb, off, none⟩ ∧ bb < w.heap.size ∧ w.cell? ⟨bb, off + i * 4, none⟩ = some (.string ⟨(c.es.getD i default).name.toArray⟩) ∧ w.cell? ⟨bb, off + i * 4 + 1, none⟩ = some (.int .i64 (c.es.getD i default).unit) ∧
        w.cell? ⟨bb, off + i * 4 + 2, none⟩ = some (.string ⟨(c.es.getD i default).serial.toArray⟩) ∧ w.cell? ⟨bb, off + i * 4 + 3, none⟩ = some (.int .i64 (c.es.getD i default).file)) := by
    rcases hpart with ⟨_, h0, a, cap, rfl⟩ | ⟨bb, off, cap, rfl, h1, h2, h3, hbb, hc⟩
    · exact ⟨a, cap, by rw [h0], fun i hi => by omega⟩
    · exact ⟨_, _, rfl, fun i hi => ⟨bb, off, rfl, hbb, hc.out i hi⟩⟩
  have hpartg := hvg.parts hM
  obtain ⟨ga, gc, rfl, HCG⟩ : ∃ ea ec, vg = .slice ea M ec ∧ Hid (∀ i, i < M → ∃ bb off, ea = some ⟨bb, off, none⟩ ∧ bb < w.heap.size ∧ w.cell? ⟨bb, off + i * 2, none⟩ = some (.string ⟨(c.gs.getD i default).base.toArray⟩) ∧ w.cell? ⟨bb, off + i * 2 + 1, none⟩ = some (.int .i64 (c.gs.getD i default).limit)) := by
    rcases hpartg with ⟨_, h0, a, cap, rfl⟩ | ⟨bb, off, cap, rfl, h1, h2, h3, hbb, hc⟩
    · exact ⟨a, cap, by rw [h0], fun i hi => by omega⟩
    · exact ⟨_, _, rfl, fun i hi => ⟨bb, off, rfl, hbb, hc.out i hi⟩⟩
  have HK := hid hk
  have HW0 := hid hW0
  have HB := hid hbx
  clear hpart hpartg hv hve hvg hk hW0 hbx hvc hL hM a3 a4 a5 a6 a7
  have hw64 : (L : Int) < 65536 := by omega
  go_enter Tryz.func13, Tryz.ntmps13
  go_wp2_with (first
    | (go_at_call 16; rw [HW0.out]; refine HK.out.mono ?_; rintro e W1 ⟨rfl, hc1⟩; obtain ⟨b0, b1⟩ := two_cells (hc1.heap HB.out (by simp)))
    | (go_at_call 32; refine (half_any _ w.heap.size _ [] (L : Int) (by omega) hw64 (OwY.nil _ _) (by simp) (hw0.trans hc1).size).mono ?_; rintro e W2 ⟨u2, rfl, ho2, hc2⟩; obtain ⟨b0', b1'⟩ := two_cells (hc2.heap (hc1.heap HB.out (by simp)) (by simp [own, Value.ownBlock]))))
  rw [List.nil_append, ← HZ.out] at ho2
  have hc2' : Chg [] W1 W2 := hc2
  have HB2 := hid ((hc1.trans hc2').heap HB.out (by simp))
  have HC2 := (hw0.trans hc1).trans hc2'
  clear hc2
  go_loopw [4, 6, 19] (fun s4 _ s19 wr => ∃ k : Nat, k ≤ L ∧ s19 = .int .i64 k ∧ OwY wr w.heap.size s4 (encK c.es k) ∧ Chg [] w wr ∧ wr.heap[w.heap.size]? = some (.cells #[.slice ea L ec, .slice ga M gc] 25 (0, 0))) (fun _ _ i _ => L - (intOf i).toNat)
  case atStart => exact ⟨0, by omega, rfl, ho2, HC2, HB2.out⟩
  case round =>
    obtain ⟨k, hk, rfl, hown, hch, hbox⟩ := hrel
    by_cases hlt : k < L
    · obtain ⟨bb, off, rfl, hbb, k0, k1, k2, k3⟩ := HC.out k hlt
      have hlti : (k : Int) < (L : Int) := by omega
      replace k0 := hch.cell k0 (by simp)
      replace k1 := hch.cell k1 (by simp)
      replace k2 := hch.cell k2 (by simp)
      replace k3 := hch.cell k3 (by simp)
      have hstep := HSE.out k hlt
      obtain ⟨l1, l2, l3, hf0, hf4⟩ := entOk_le (HOK.out k hlt)
      obtain ⟨x, hx⟩ : ∃ x, c.es.getD k default = x := ⟨_, rfl⟩
      rw [hx] at k0 k1 k2 k3 hstep l1 l2 l3 hf0 hf4
      clear hx
      have hll := HLEN.out k
      obtain ⟨l, hle⟩ : ∃ l, encK c.es k = l := ⟨_, rfl⟩
      rw [hle] at hown hstep hll
      obtain ⟨hl2, hl'⟩ := hll
      have hl : l.length ≤ 1000000 := by omega
      obtain ⟨X, hXe⟩ : ∃ X : ByteArray, (⟨x.name.toArray⟩ : ByteArray) = X := ⟨_, rfl⟩
      obtain ⟨Y, hYe⟩ : ∃ Y : ByteArray, (⟨x.serial.toArray⟩ : ByteArray) = Y := ⟨_, rfl⟩
      have hX : X.size ≤ 255 := by rw [← hXe, bs_size]; omega
      have hY : Y.size ≤ 255 := by rw [← hYe, bs_size]; omega
      have hXs : (X.size : Int) = (x.name.length : Int) := by rw [← hXe, bs_size]
      have hYs : (Y.size : Int) = (x.serial.length : Int) := by rw [← hYe, bs_size]
      have HSTEP : Hid (encK c.es (k + 1) = l ++ [byteI (X.size : Int)] ++ X.data.toList ++ [byteI x.unit] ++ [byteI (Y.size : Int)] ++ Y.data.toList ++ twoB x.file) := hid (by
        rw [hstep, hXs, hYs, ← hXe, ← hYe]; unfold encEnt; simp [List.append_assoc])
      rw [hXe] at k0
      rw [hYe] at k2
      have hf1 : x.file < 65536 := by omega
      have hu0 : 0 ≤ x.unit := by omega
      have hu1 : x.unit < 256 := by omega
      have HEU : Hid ([Value.int .u8 (IntKind.u8.wrap x.unit)] = [byteI x.unit].map eb) := hid (by rw [List.map_cons, List.map_nil, eb_byteI, wrap_u8'])
      have HCHa := hid (hch.trans (Chg.alloc [] wr (.cells #[.string X, .int .i64 x.unit, .string Y, .int .i64 x.file] 45)))
      have HOWa := hid (hown.keep1 (Chg.alloc [] wr (.cells #[.string X, .int .i64 x.unit, .string Y, .int .i64 x.file] 45)))
      have HBBa := hid (al_new (w := wr) (o := .cells #[.string X, .int .i64 x.unit, .string Y, .int .i64 x.file] 45 (0, 0)) rfl)
      have hbw : bb < wr.heap.size := by have := hch.size; omega
      have HBOXa := hid hbox
      clear hown hch hbox hstep hXe hYe hXs hYs hle l3 HSE HOK HSG HOKG
      go_wp2_with (fail)
      obtain ⟨wb, hwb⟩ : ∃ wb, wr.alloc (.cells #[.string X, .int .i64 x.unit, .string Y, .int .i64 x.file] 45) = wb := ⟨_, rfl⟩
      obtain ⟨bx, hbx⟩ : ∃ bx, wr.heap.size = bx := ⟨_, rfl⟩
      have HBB : Hid (wb.heap[bx]? = some (.cells #[.string X, .int .i64 x.unit, .string Y, .int .i64 x.file] 45 (0, 0))) := hid (by rw [← hwb, ← hbx]; exact HBBa.out)
      have HOW : Hid (OwY wb w.heap.size u4 l) := hid (by rw [← hwb]; exact HOWa.out)
      have HCH : Hid (Chg [] w wb) := hid (by rw [← hwb]; exact HCHa.out)
      have hBw : w.heap.size ≤ wb.heap.size := HCH.out.size
      have HBOX : Hid (wb.heap[w.heap.size]? = some (.cells #[.slice (some ⟨bb, off, none⟩) L ec, .slice ga M gc] 25 (0, 0))) := hid (by rw [← hwb]; exact al_old HBOXa.out)
      rw [hwb, hbx]
      clear hwb hbx HBBa HOWa HCHa k0 k1 k2 k3 hbw
      refine region_held (S := fun w' => w'.heap[bx]? = some (.cells #[.string X, .int .i64 x.unit, .string Y, .int .i64 x.file] 45 (0, 0))) (by kernel_rfl) (n := 11) rfl (l := #[false, false, false, false, false, false, false, false, false, false, false]) rfl ?_
      obtain ⟨V1, hE1⟩ : ∃ W', wb.drew = W' := ⟨_, rfl⟩
      rw [hE1]
      have hA1 : Chg [] wb V1 := by rw [← hE1]; exact Chg.drew [] _
      have hS1 := hA1.heap HBB.out (by simp)
      have hG1 : GrB w.heap.size wb V1 := GrB.of_chg hA1
      clear hE1
      refine held_take' 0 23 (listed' := #[true, false, false, false, false, false, false, false, false, false, false]) (v := ?v1) (t' := ?t1) rfl rfl (by kernel_rfl) (by rfl) ?hv1 (fun _ _ _ h => h) hS1 rfl ?ht1 ?rest1; (case hv1 => (intro W' hW'; obtain ⟨q0, q1, q2, q3⟩ := four_at hW'; go_simp; try with_reducible rfl)); case ht1 => (simp only [List.setIfInBounds_toArray, List.set_cons_zero, List.set_cons_succ]; with_reducible rfl)
      refine held_take' 1 24 (listed' := #[true, true, false, false, false, false, false, false, false, false, false]) (v := ?v2) (t' := ?t2) rfl rfl (by kernel_rfl) (by rfl) ?hv2 (fun _ _ _ h => h) hS1 rfl ?ht2 ?rest2; (case hv2 => (intro W' hW'; obtain ⟨q0, q1, q2, q3⟩ := four_at hW'; go_simp; try with_reducible rfl)); case ht2 => (simp only [List.setIfInBounds_toArray, List.set_cons_zero, List.set_cons_succ]; with_reducible rfl)
      refine held_take' 2 25 (listed' := #[true, true, true, false, false, false, false, false, false, false, false]) (v := ?v3) (t' := ?t3) rfl rfl (by kernel_rfl) (by rfl) ?hv3 (fun _ _ _ h => h) hS1 rfl ?ht3 ?rest3; (case hv3 => (intro W' hW'; obtain ⟨q0, q1, q2, q3⟩ := four_at hW'; go_simp; try with_reducible rfl)); case ht3 => (simp only [List.setIfInBounds_toArray, List.set_cons_zero, List.set_cons_succ]; with_reducible rfl)
      refine held_take' 5 28 (listed' := #[true, true, true, false, false, true, false, false, false, false, false]) (v := ?v4) (t' := ?t4) rfl rfl (by kernel_rfl) (by rfl) ?hv4 (fun _ _ _ h => h) hS1 rfl ?ht4 ?rest4; (case hv4 => (intro W' hW'; obtain ⟨q0, q1, q2, q3⟩ := four_at hW'; go_simp; try with_reducible rfl)); case ht4 => (simp only [List.setIfInBounds_toArray, List.set_cons_zero, List.set_cons_succ]; with_reducible rfl)
      refine held_take' 6 29 (listed' := #[true, true, true, false, false, true, true, false, false, false, false]) (v := ?v5) (t' := ?t5) rfl rfl (by kernel_rfl) (by rfl) ?hv5 (fun _ _ _ h => h) hS1 rfl ?ht5 ?rest5; (case hv5 => (intro W' hW'; obtain ⟨q0, q1, q2, q3⟩ := four_at hW'; go_simp; try with_reducible rfl)); case ht5 => (simp only [List.setIfInBounds_toArray, List.set_cons_zero, List.set_cons_succ]; with_reducible rfl)
      refine held_take' 7 30 (listed' := #[true, true, true, false, false, true, true, true, false, false, false]) (v := ?v6) (t' := ?t6) rfl rfl (by kernel_rfl) (by rfl) ?hv6 (fun _ _ _ h => h) hS1 rfl ?ht6 ?rest6; (case hv6 => (intro W' hW'; obtain ⟨q0, q1, q2, q3⟩ := four_at hW'; go_simp; try with_reducible rfl)); case ht6 => (simp only [List.setIfInBounds_toArray, List.set_cons_zero, List.set_cons_succ]; with_reducible rfl)
      refine held_two 3 8 rfl rfl (by kernel_rfl) (by rfl) (by rfl) (fun K hK => ?_) (fun K hK => ?_)
      · go_simp
        have hna := al_new (w := V1) (o := .cells #[.string X] 9) rfl
        have hA2 := Chg.alloc [] V1 (.cells #[.string X] 9)
        have hS2 := hA2.heap hS1 (by simp)
        refine hK.out _ _ hS2 ?_
        clear hK K
        generalize V1.alloc (.cells #[.string X] 9) = V2 at hna hA2 hS2 ⊢
        generalize V1.heap.size = ga at hna ⊢
        have hG2 : GrB w.heap.size V1 V2 := GrB.of_chg hA2
        show wpAnyH _ _ _ _ _ _ #[true, true, true, true, false, true, true, true, false, false, false] _ _
        refine held_two 4 8 rfl rfl (by kernel_rfl) (by rfl) (by rfl) (fun K hK => ?_) (fun K hK => ?_)
        · go_simp
          refine (field_any V2 w.heap.size ga _ l X 9 (0, 0) (by decide) hna hX (HOW.out.keep1 (hA1.trans hA2)) hl hl2 (Nat.le_trans hBw (hG1.trans hG2).size)).mono ?_
          rintro e V3 ⟨u3, rfl, ho3, hG3⟩
          have hS3 := hG3.heap hS2 (by decide)
          refine hK.out _ _ hS3 ?_
          clear hK K
          show wpAnyH _ _ _ _ _ _ #[true, true, true, true, true, true, true, true, false, false, false] _ _
          refine held_one 8 rfl (by kernel_rfl) (by rfl) (fun K hK => ?_)
          go_simp
          have hnb := al_new (w := V3) (o := .cells #[.int .u8 (IntKind.u8.wrap x.unit)] 5) rfl
          have hA4 := Chg.alloc [] V3 (.cells #[.int .u8 (IntKind.u8.wrap x.unit)] 5)
          have hS4 := hA4.heap hS3 (by simp)
          refine hK.out _ _ hS4 ?_
          clear hK K
          generalize V3.alloc (.cells #[.int .u8 (IntKind.u8.wrap x.unit)] 5) = V4 at hnb hA4 hS4 ⊢
          generalize V3.heap.size = gb at hnb ⊢
          have hG4 : GrB w.heap.size V3 V4 := GrB.of_chg hA4
          show wpAnyH _ _ _ _ _ _ #[true, true, true, true, true, true, true, true, true, false, false] _ _
          refine held_one 9 rfl (by kernel_rfl) (by rfl) (fun K hK => ?_)
          refine apBw _ _ rfl w.heap.size 1 _ [byteI x.unit] HEU.out rfl (ho3.keep1 hA4) rfl _ hnb rfl (by simp; omega) (Nat.le_trans hBw (((hG1.trans hG2).trans hG3).trans hG4).size) ?_
          intro u5 V5 ho5 hc5
          have hG5 := GrB.of_own (ho3.keep1 hA4) (by simp; omega) hc5
          have hS5 := hG5.heap hS4 (by decide)
          refine hK.out _ _ hS5 ?_
          clear hK K
          show wpAnyH _ _ _ _ _ _ #[true, true, true, true, true, true, true, true, true, true, false] _ _
          refine held_take' 10 4 (listed' := #[true, true, true, true, true, true, true, true, true, true, true]) (v := ?v7) (t' := ?t7) rfl rfl (by kernel_rfl) (by rfl) ?hv7 (fun _ _ _ h => h) hS5 rfl ?ht7 ?rest7; (case hv7 => (intro W' hW'; obtain ⟨q0, q1, q2, q3⟩ := four_at hW'; go_simp; try with_reducible rfl)); case ht7 => (simp only [List.setIfInBounds_toArray, List.set_cons_zero, List.set_cons_succ]; with_reducible rfl)
          refine wpAnyH_done (by kernel_rfl) ?_ _
          have HO1 := hid ho5
          have HG1 := hid ((((hG1.trans hG2).trans hG3).trans hG4).trans hG5)
          have HBX := hid hS5
          have hz : True := trivial
          go_wp2_with (fail)
          replace hBw : w.heap.size ≤ V5.heap.size := Nat.le_trans hBw HG1.out.size
          refine region_held (S := fun w' => w'.heap[bx]? = some (.cells #[.string X, .int .i64 x.unit, .string Y, .int .i64 x.file] 45 (0, 0))) (by kernel_rfl) (n := 9) rfl (l := #[false, false, false, false, false, false, false, false, false]) rfl ?_
          obtain ⟨V6, hE6⟩ : ∃ W', V5.drew = W' := ⟨_, rfl⟩
          rw [hE6]
          have hA6 : Chg [] V5 V6 := by rw [← hE6]; exact Chg.drew [] _
          have hS6 := hA6.heap HBX.out (by simp)
          have hG6 : GrB w.heap.size V5 V6 := GrB.of_chg hA6
          clear hE6
          refine held_take' 0 33 (listed' := #[true, false, false, false, false, false, false, false, false]) (v := ?v8) (t' := ?t8) rfl rfl (by kernel_rfl) (by rfl) ?hv8 (fun _ _ _ h => h) hS6 rfl ?ht8 ?rest8; (case hv8 => (intro W' hW'; obtain ⟨q0, q1, q2, q3⟩ := four_at hW'; go_simp; try with_reducible rfl)); case ht8 => (simp only [List.setIfInBounds_toArray, List.set_cons_zero, List.set_cons_succ]; with_reducible rfl)
          refine held_take' 1 34 (listed' := #[true, true, false, false, false, false, false, false, false]) (v := ?v9) (t' := ?t9) rfl rfl (by kernel_rfl) (by rfl) ?hv9 (fun _ _ _ h => h) hS6 rfl ?ht9 ?rest9; (case hv9 => (intro W' hW'; obtain ⟨q0, q1, q2, q3⟩ := four_at hW'; go_simp; try with_reducible rfl)); case ht9 => (simp only [List.setIfInBounds_toArray, List.set_cons_zero, List.set_cons_succ]; with_reducible rfl)
          refine held_take' 2 35 (listed' := #[true, true, true, false, false, false, false, false, false]) (v := ?v10) (t' := ?t10) rfl rfl (by kernel_rfl) (by rfl) ?hv10 (fun _ _ _ h => h) hS6 rfl ?ht10 ?rest10; (case hv10 => (intro W' hW'; obtain ⟨q0, q1, q2, q3⟩ := four_at hW'; go_simp; try with_reducible rfl)); case ht10 => (simp only [List.setIfInBounds_toArray, List.set_cons_zero, List.set_cons_succ]; with_reducible rfl)
          refine held_take' 5 38 (listed' := #[true, true, true, false, false, true, false, false, false]) (v := ?v11) (t' := ?t11) rfl rfl (by kernel_rfl) (by rfl) ?hv11 (fun _ _ _ h => h) hS6 rfl ?ht11 ?rest11; (case hv11 => (intro W' hW'; obtain ⟨q0, q1, q2, q3⟩ := four_at hW'; go_simp; try with_reducible rfl)); case ht11 => (simp only [List.setIfInBounds_toArray, List.set_cons_zero, List.set_cons_succ]; with_reducible rfl)
          refine held_take' 6 39 (listed' := #[true, true, true, false, false, true, true, false, false]) (v := ?v12) (t' := ?t12) rfl rfl (by kernel_rfl) (by rfl) ?hv12 (fun _ _ _ h => h) hS6 rfl ?ht12 ?rest12; (case hv12 => (intro W' hW'; obtain ⟨q0, q1, q2, q3⟩ := four_at hW'; go_simp; try with_reducible rfl)); case ht12 => (simp only [List.setIfInBounds_toArray, List.set_cons_zero, List.set_cons_succ]; with_reducible rfl)
          refine held_one 3 rfl (by kernel_rfl) (by rfl) (fun K hK => ?_)
          go_simp
          have hnc := al_new (w := V6) (o := .cells #[.string Y] 9) rfl
          have hA7 := Chg.alloc [] V6 (.cells #[.string Y] 9)
          have hS7 := hA7.heap hS6 (by simp)
          refine hK.out _ _ hS7 ?_
          clear hK K
          generalize V6.alloc (.cells #[.string Y] 9) = V7 at hnc hA7 hS7 ⊢
          generalize V6.heap.size = gc at hnc ⊢
          have hG7 : GrB w.heap.size V6 V7 := GrB.of_chg hA7
          show wpAnyH _ _ _ _ _ _ #[true, true, true, true, false, true, true, false, false] _ _
          refine held_one 4 rfl (by kernel_rfl) (by rfl) (fun K hK => ?_)
          go_simp
          refine (field_any V7 w.heap.size gc _ _ Y 9 (0, 0) (by decide) hnc hY (HO1.out.keep1 (hA6.trans hA7)) (by simp; omega) (by simp; omega) (Nat.le_trans hBw (hG6.trans hG7).size)).mono ?_
          rintro e V8 ⟨u8, rfl, ho8, hG8⟩
          have hS8 := hG8.heap hS7 (by decide)
          refine hK.out _ _ hS8 ?_
          clear hK K
          show wpAnyH _ _ _ _ _ _ #[true, true, true, true, true, true, true, false, false] _ _
          refine held_one 7 rfl (by kernel_rfl) (by rfl) (fun K hK => ?_)
          go_simp
          refine (half_any V8 w.heap.size _ _ x.file hf0 hf1 ho8 (by simp; omega) (Nat.le_trans hBw ((hG6.trans hG7).trans hG8).size)).mono ?_
          rintro e V9 ⟨u9, rfl, ho9, hc9⟩
          have hG9 := GrB.of_own ho8 (by simp; omega) hc9
          have hS9 := hG9.heap hS8 (by decide)
          refine hK.out _ _ hS9 ?_
          clear hK K
          show wpAnyH _ _ _ _ _ _ #[true, true, true, true, true, true, true, true, false] _ _
          refine held_take' 8 4 (listed' := #[true, true, true, true, true, true, true, true, true]) (v := ?v13) (t' := ?t13) rfl rfl (by kernel_rfl) (by rfl) ?hv13 (fun _ _ _ h => h) hS9 rfl ?ht13 ?rest13; (case hv13 => (intro W' hW'; obtain ⟨q0, q1, q2, q3⟩ := four_at hW'; go_simp; try with_reducible rfl)); case ht13 => (simp only [List.setIfInBounds_toArray, List.set_cons_zero, List.set_cons_succ]; with_reducible rfl)
          refine wpAnyH_done (by kernel_rfl) ?_ _
          have HO := hid ho9
          have HG := hid (((((HG1.out.trans hG6).trans hG7).trans hG8).trans hG9))
          go_wp2_with (fail)
          go_roundw
          case rel => exact ⟨k + 1, by omega, by go_num, by rw [HSTEP.out]; exact HO.out, HG.out.chg HCH.out, HG.out.heap HBOX.out (by decide)⟩
          case measure => simp [intOf]; omega
        · go_simp
          have hnb := al_new (w := V2) (o := .cells #[.int .u8 (IntKind.u8.wrap x.unit)] 5) rfl
          have hA3 := Chg.alloc [] V2 (.cells #[.int .u8 (IntKind.u8.wrap x.unit)] 5)
          have hS3 := hA3.heap hS2 (by simp)
          refine hK.out _ _ hS3 ?_
          clear hK K
          generalize V2.alloc (.cells #[.int .u8 (IntKind.u8.wrap x.unit)] 5) = V3 at hnb hA3 hS3 ⊢
          generalize V2.heap.size = gb at hnb ⊢
          have hG3 : GrB w.heap.size V2 V3 := GrB.of_chg hA3
          show wpAnyH _ _ _ _ _ _ #[true, true, true, true, false, true, true, true, true, false, false] _ _
          refine held_one 4 rfl (by kernel_rfl) (by rfl) (fun K hK => ?_)
          go_simp
          refine (field_any V3 w.heap.size ga _ l X 9 (0, 0) (by decide) (hG3.heap hna (by decide)) hX (HOW.out.keep1 ((hA1.trans hA2).trans hA3)) hl hl2 (Nat.le_trans hBw ((hG1.trans hG2).trans hG3).size)).mono ?_
          rintro e V4 ⟨u4, rfl, ho4, hG4⟩
          have hS4 := hG4.heap hS3 (by decide)
          refine hK.out _ _ hS4 ?_
          clear hK K
          show wpAnyH _ _ _ _ _ _ #[true, true, true, true, true, true, true, true, true, false, false] _ _
          refine held_one 9 rfl (by kernel_rfl) (by rfl) (fun K hK => ?_)
          refine apBw _ _ rfl w.heap.size 1 _ [byteI x.unit] HEU.out rfl ho4 rfl _ (hG4.small hnb) rfl (by simp; omega) (Nat.le_trans hBw (((hG1.trans hG2).trans hG3).trans hG4).size) ?_
          intro u5 V5 ho5 hc5
          have hG5 := GrB.of_own ho4 (by simp; omega) hc5
          have hS5 := hG5.heap hS4 (by decide)
          refine hK.out _ _ hS5 ?_
          clear hK K
          show wpAnyH _ _ _ _ _ _ #[true, true, true, true, true, true, true, true, true, true, false] _ _
          refine held_take' 10 4 (listed' := #[true, true, true, true, true, true, true, true, true, true, true]) (v := ?v14) (t' := ?t14) rfl rfl (by kernel_rfl) (by rfl) ?hv14 (fun _ _ _ h => h) hS5 rfl ?ht14 ?rest14; (case hv14 => (intro W' hW'; obtain ⟨q0, q1, q2, q3⟩ := four_at hW'; go_simp; try with_reducible rfl)); case ht14 => (simp only [List.setIfInBounds_toArray, List.set_cons_zero, List.set_cons_succ]; with_reducible rfl)
          refine wpAnyH_done (by kernel_rfl) ?_ _
          have HO1 := hid ho5
          have HG1 := hid ((((hG1.trans hG2).trans hG3).trans hG4).trans hG5)
          have HBX := hid hS5
          have hz : True := trivial
          go_wp2_with (fail)
          replace hBw : w.heap.size ≤ V5.heap.size := Nat.le_trans hBw HG1.out.size
          refine region_held (S := fun w' => w'.heap[bx]? = some (.cells #[.string X, .int .i64 x.unit, .string Y, .int .i64 x.file] 45 (0, 0))) (by kernel_rfl) (n := 9) rfl (l := #[false, false, false, false, false, false, false, false, false]) rfl ?_
          obtain ⟨V6, hE6⟩ : ∃ W', V5.drew = W' := ⟨_, rfl⟩
          rw [hE6]
          have hA6 : Chg [] V5 V6 := by rw [← hE6]; exact Chg.drew [] _
          have hS6 := hA6.heap HBX.out (by simp)
          have hG6 : GrB w.heap.size V5 V6 := GrB.of_chg hA6
          clear hE6
          refine held_take' 0 33 (listed' := #[true, false, false, false, false, false, false, false, false]) (v := ?v15) (t' := ?t15) rfl rfl (by kernel_rfl) (by rfl) ?hv15 (fun _ _ _ h => h) hS6 rfl ?ht15 ?rest15; (case hv15 => (intro W' hW'; obtain ⟨q0, q1, q2, q3⟩ := four_at hW'; go_simp; try with_reducible rfl)); case ht15 => (simp only [List.setIfInBounds_toArray, List.set_cons_zero, List.set_cons_succ]; with_reducible rfl)
          refine held_take' 1 34 (listed' := #[true, true, false, false, false, false, false, false, false]) (v := ?v16) (t' := ?t16) rfl rfl (by kernel_rfl) (by rfl) ?hv16 (fun _ _ _ h => h) hS6 rfl ?ht16 ?rest16; (case hv16 => (intro W' hW'; obtain ⟨q0, q1, q2, q3⟩ := four_at hW'; go_simp; try with_reducible rfl)); case ht16 => (simp only [List.setIfInBounds_toArray, List.set_cons_zero, List.set_cons_succ]; with_reducible rfl)
          refine held_take' 2 35 (listed' := #[true, true, true, false, false, false, false, false, false]) (v := ?v17) (t' := ?t17) rfl rfl (by kernel_rfl) (by rfl) ?hv17 (fun _ _ _ h => h) hS6 rfl ?ht17 ?rest17; (case hv17 => (intro W' hW'; obtain ⟨q0, q1, q2, q3⟩ := four_at hW'; go_simp; try with_reducible rfl)); case ht17 => (simp only [List.setIfInBounds_toArray, List.set_cons_zero, List.set_cons_succ]; with_reducible rfl)
          refine held_take' 5 38 (listed' := #[true, true, true, false, false, true, false, false, false]) (v := ?v18) (t' := ?t18) rfl rfl (by kernel_rfl) (by rfl) ?hv18 (fun _ _ _ h => h) hS6 rfl ?ht18 ?rest18; (case hv18 => (intro W' hW'; obtain ⟨q0, q1, q2, q3⟩ := four_at hW'; go_simp; try with_reducible rfl)); case ht18 => (simp only [List.setIfInBounds_toArray, List.set_cons_zero, List.set_cons_succ]; with_reducible rfl)
          refine held_take' 6 39 (listed' := #[true, true, true, false, false, true, true, false, false]) (v := ?v19) (t' := ?t19) rfl rfl (by kernel_rfl) (by rfl) ?hv19 (fun _ _ _ h => h) hS6 rfl ?ht19 ?rest19; (case hv19 => (intro W' hW'; obtain ⟨q0, q1, q2, q3⟩ := four_at hW'; go_simp; try with_reducible rfl)); case ht19 => (simp only [List.setIfInBounds_toArray, List.set_cons_zero, List.set_cons_succ]; with_reducible rfl)
          refine held_one 3 rfl (by kernel_rfl) (by rfl) (fun K hK => ?_)
          go_simp
          have hnc := al_new (w := V6) (o := .cells #[.string Y] 9) rfl
          have hA7 := Chg.alloc [] V6 (.cells #[.string Y] 9)
          have hS7 := hA7.heap hS6 (by simp)
          refine hK.out _ _ hS7 ?_
          clear hK K
          generalize V6.alloc (.cells #[.string Y] 9) = V7 at hnc hA7 hS7 ⊢
          generalize V6.heap.size = gc at hnc ⊢
          have hG7 : GrB w.heap.size V6 V7 := GrB.of_chg hA7
          show wpAnyH _ _ _ _ _ _ #[true, true, true, true, false, true, true, false, false] _ _
          refine held_one 4 rfl (by kernel_rfl) (by rfl) (fun K hK => ?_)
          go_simp
          refine (field_any V7 w.heap.size gc _ _ Y 9 (0, 0) (by decide) hnc hY (HO1.out.keep1 (hA6.trans hA7)) (by simp; omega) (by simp; omega) (Nat.le_trans hBw (hG6.trans hG7).size)).mono ?_
          rintro e V8 ⟨u8, rfl, ho8, hG8⟩
          have hS8 := hG8.heap hS7 (by decide)
          refine hK.out _ _ hS8 ?_
          clear hK K
          show wpAnyH _ _ _ _ _ _ #[true, true, true, true, true, true, true, false, false] _ _
          refine held_one 7 rfl (by kernel_rfl) (by rfl) (fun K hK => ?_)
          go_simp
          refine (half_any V8 w.heap.size _ _ x.file hf0 hf1 ho8 (by simp; omega) (Nat.le_trans hBw ((hG6.trans hG7).trans hG8).size)).mono ?_
          rintro e V9 ⟨u9, rfl, ho9, hc9⟩
          have hG9 := GrB.of_own ho8 (by simp; omega) hc9
          have hS9 := hG9.heap hS8 (by decide)
          refine hK.out _ _ hS9 ?_
          clear hK K
          show wpAnyH _ _ _ _ _ _ #[true, true, true, true, true, true, true, true, false] _ _
          refine held_take' 8 4 (listed' := #[true, true, true, true, true, true, true, true, true]) (v := ?v20) (t' := ?t20) rfl rfl (by kernel_rfl) (by rfl) ?hv20 (fun _ _ _ h => h) hS9 rfl ?ht20 ?rest20; (case hv20 => (intro W' hW'; obtain ⟨q0, q1, q2, q3⟩ := four_at hW'; go_simp; try with_reducible rfl)); case ht20 => (simp only [List.setIfInBounds_toArray, List.set_cons_zero, List.set_cons_succ]; with_reducible rfl)
          refine wpAnyH_done (by kernel_rfl) ?_ _
          have HO := hid ho9
          have HG := hid (((((HG1.out.trans hG6).trans hG7).trans hG8).trans hG9))
          go_wp2_with (fail)
          go_roundw
          case rel => exact ⟨k + 1, by omega, by go_num, by rw [HSTEP.out]; exact HO.out, HG.out.chg HCH.out, HG.out.heap HBOX.out (by decide)⟩
          case measure => simp [intOf]; omega
      · go_simp
        have hnb := al_new (w := V1) (o := .cells #[.int .u8 (IntKind.u8.wrap x.unit)] 5) rfl
        have hA2 := Chg.alloc [] V1 (.cells #[.int .u8 (IntKind.u8.wrap x.unit)] 5)
        have hS2 := hA2.heap hS1 (by simp)
        refine hK.out _ _ hS2 ?_
        clear hK K
        generalize V1.alloc (.cells #[.int .u8 (IntKind.u8.wrap x.unit)] 5) = V2 at hnb hA2 hS2 ⊢
        generalize V1.heap.size = gb at hnb ⊢
        have hG2 : GrB w.heap.size V1 V2 := GrB.of_chg hA2
        show wpAnyH _ _ _ _ _ _ #[true, true, true, false, false, true, true, true, true, false, false] _ _
        refine held_one 3 rfl (by kernel_rfl) (by rfl) (fun K hK => ?_)
        go_simp
        have hna := al_new (w := V2) (o := .cells #[.string X] 9) rfl
        have hA3 := Chg.alloc [] V2 (.cells #[.string X] 9)
        have hS3 := hA3.heap hS2 (by simp)
        refine hK.out _ _ hS3 ?_
        clear hK K
        generalize V2.alloc (.cells #[.string X] 9) = V3 at hna hA3 hS3 ⊢
        generalize V2.heap.size = ga at hna ⊢
        have hG3 : GrB w.heap.size V2 V3 := GrB.of_chg hA3
        show wpAnyH _ _ _ _ _ _ #[true, true, true, true, false, true, true, true, true, false, false] _ _
        refine held_one 4 rfl (by kernel_rfl) (by rfl) (fun K hK => ?_)
        go_simp
        refine (field_any V3 w.heap.size ga _ l X 9 (0, 0) (by decide) hna hX (HOW.out.keep1 ((hA1.trans hA2).trans hA3)) hl hl2 (Nat.le_trans hBw ((hG1.trans hG2).trans hG3).size)).mono ?_
        rintro e V4 ⟨u4, rfl, ho4, hG4⟩
        have hS4 := hG4.heap hS3 (by decide)
        refine hK.out _ _ hS4 ?_
        clear hK K
        show wpAnyH _ _ _ _ _ _ #[true, true, true, true, true, true, true, true, true, false, false] _ _
        refine held_one 9 rfl (by kernel_rfl) (by rfl) (fun K hK => ?_)
        refine apBw _ _ rfl w.heap.size 1 _ [byteI x.unit] HEU.out rfl ho4 rfl _ ((hG3.trans hG4).small hnb) rfl (by simp; omega) (Nat.le_trans hBw (((hG1.trans hG2).trans hG3).trans hG4).size) ?_
        intro u5 V5 ho5 hc5
        have hG5 := GrB.of_own ho4 (by simp; omega) hc5
        have hS5 := hG5.heap hS4 (by decide)
        refine hK.out _ _ hS5 ?_
        clear hK K
        show wpAnyH _ _ _ _ _ _ #[true, true, true, true, true, true, true, true, true, true, false] _ _
        refine held_take' 10 4 (listed' := #[true, true, true, true, true, true, true, true, true, true, true]) (v := ?v21) (t' := ?t21) rfl rfl (by kernel_rfl) (by rfl) ?hv21 (fun _ _ _ h => h) hS5 rfl ?ht21 ?rest21; (case hv21 => (intro W' hW'; obtain ⟨q0, q1, q2, q3⟩ := four_at hW'; go_simp; try with_reducible rfl)); case ht21 => (simp only [List.setIfInBounds_toArray, List.set_cons_zero, List.set_cons_succ]; with_reducible rfl)
        refine wpAnyH_done (by kernel_rfl) ?_ _
        have HO1 := hid ho5
        have HG1 := hid ((((hG1.trans hG2).trans hG3).trans hG4).trans hG5)
        have HBX := hid hS5
        have hz : True := trivial
        go_wp2_with (fail)
        replace hBw : w.heap.size ≤ V5.heap.size := Nat.le_trans hBw HG1.out.size
        refine region_held (S := fun w' => w'.heap[bx]? = some (.cells #[.string X, .int .i64 x.unit, .string Y, .int .i64 x.file] 45 (0, 0))) (by kernel_rfl) (n := 9) rfl (l := #[false, false, false, false, false, false, false, false, false]) rfl ?_
        obtain ⟨V6, hE6⟩ : ∃ W', V5.drew = W' := ⟨_, rfl⟩
        rw [hE6]
        have hA6 : Chg [] V5 V6 := by rw [← hE6]; exact Chg.drew [] _
        have hS6 := hA6.heap HBX.out (by simp)
        have hG6 : GrB w.heap.size V5 V6 := GrB.of_chg hA6
        clear hE6
        refine held_take' 0 33 (listed' := #[true, false, false, false, false, false, false, false, false]) (v := ?v22) (t' := ?t22) rfl rfl (by kernel_rfl) (by rfl) ?hv22 (fun _ _ _ h => h) hS6 rfl ?ht22 ?rest22; (case hv22 => (intro W' hW'; obtain ⟨q0, q1, q2, q3⟩ := four_at hW'; go_simp; try with_reducible rfl)); case ht22 => (simp only [List.setIfInBounds_toArray, List.set_cons_zero, List.set_cons_succ]; with_reducible rfl)
        refine held_take' 1 34 (listed' := #[true, true, false, false, false, false, false, false, false]) (v := ?v23) (t' := ?t23) rfl rfl (by kernel_rfl) (by rfl) ?hv23 (fun _ _ _ h => h) hS6 rfl ?ht23 ?rest23; (case hv23 => (intro W' hW'; obtain ⟨q0, q1, q2, q3⟩ := four_at hW'; go_simp; try with_reducible rfl)); case ht23 => (simp only [List.setIfInBounds_toArray, List.set_cons_zero, List.set_cons_succ]; with_reducible rfl)
        refine held_take' 2 35 (listed' := #[true, true, true, false, false, false, false, false, false]) (v := ?v24) (t' := ?t24) rfl rfl (by kernel_rfl) (by rfl) ?hv24 (fun _ _ _ h => h) hS6 rfl ?ht24 ?rest24; (case hv24 => (intro W' hW'; obtain ⟨q0, q1, q2, q3⟩ := four_at hW'; go_simp; try with_reducible rfl)); case ht24 => (simp only [List.setIfInBounds_toArray, List.set_cons_zero, List.set_cons_succ]; with_reducible rfl)
        refine held_take' 5 38 (listed' := #[true, true, true, false, false, true, false, false, false]) (v := ?v25) (t' := ?t25) rfl rfl (by kernel_rfl) (by rfl) ?hv25 (fun _ _ _ h => h) hS6 rfl ?ht25 ?rest25; (case hv25 => (intro W' hW'; obtain ⟨q0, q1, q2, q3⟩ := four_at hW'; go_simp; try with_reducible rfl)); case ht25 => (simp only [List.setIfInBounds_toArray, List.set_cons_zero, List.set_cons_succ]; with_reducible rfl)
        refine held_take' 6 39 (listed' := #[true, true, true, false, false, true, true, false, false]) (v := ?v26) (t' := ?t26) rfl rfl (by kernel_rfl) (by rfl) ?hv26 (fun _ _ _ h => h) hS6 rfl ?ht26 ?rest26; (case hv26 => (intro W' hW'; obtain ⟨q0, q1, q2, q3⟩ := four_at hW'; go_simp; try with_reducible rfl)); case ht26 => (simp only [List.setIfInBounds_toArray, List.set_cons_zero, List.set_cons_succ]; with_reducible rfl)
        refine held_one 3 rfl (by kernel_rfl) (by rfl) (fun K hK => ?_)
        go_simp
        have hnc := al_new (w := V6) (o := .cells #[.string Y] 9) rfl
        have hA7 := Chg.alloc [] V6 (.cells #[.string Y] 9)
        have hS7 := hA7.heap hS6 (by simp)
        refine hK.out _ _ hS7 ?_
        clear hK K
        generalize V6.alloc (.cells #[.string Y] 9) = V7 at hnc hA7 hS7 ⊢
        generalize V6.heap.size = gc at hnc ⊢
        have hG7 : GrB w.heap.size V6 V7 := GrB.of_chg hA7
        show wpAnyH _ _ _ _ _ _ #[true, true, true, true, false, true, true, false, false] _ _
        refine held_one 4 rfl (by kernel_rfl) (by rfl) (fun K hK => ?_)
        go_simp
        refine (field_any V7 w.heap.size gc _ _ Y 9 (0, 0) (by decide) hnc hY (HO1.out.keep1 (hA6.trans hA7)) (by simp; omega) (by simp; omega) (Nat.le_trans hBw (hG6.trans hG7).size)).mono ?_
        rintro e V8 ⟨u8, rfl, ho8, hG8⟩
        have hS8 := hG8.heap hS7 (by decide)
        refine hK.out _ _ hS8 ?_
        clear hK K
        show wpAnyH _ _ _ _ _ _ #[true, true, true, true, true, true, true, false, false] _ _
        refine held_one 7 rfl (by kernel_rfl) (by rfl) (fun K hK => ?_)
        go_simp
        refine (half_any V8 w.heap.size _ _ x.file hf0 hf1 ho8 (by simp; omega) (Nat.le_trans hBw ((hG6.trans hG7).trans hG8).size)).mono ?_
        rintro e V9 ⟨u9, rfl, ho9, hc9⟩
        have hG9 := GrB.of_own ho8 (by simp; omega) hc9
        have hS9 := hG9.heap hS8 (by decide)
        refine hK.out _ _ hS9 ?_
        clear hK K
        show wpAnyH _ _ _ _ _ _ #[true, true, true, true, true, true, true, true, false] _ _
        refine held_take' 8 4 (listed' := #[true, true, true, true, true, true, true, true, true]) (v := ?v27) (t' := ?t27) rfl rfl (by kernel_rfl) (by rfl) ?hv27 (fun _ _ _ h => h) hS9 rfl ?ht27 ?rest27; (case hv27 => (intro W' hW'; obtain ⟨q0, q1, q2, q3⟩ := four_at hW'; go_simp; try with_reducible rfl)); case ht27 => (simp only [List.setIfInBounds_toArray, List.set_cons_zero, List.set_cons_succ]; with_reducible rfl)
        refine wpAnyH_done (by kernel_rfl) ?_ _
        have HO := hid ho9
        have HG := hid (((((HG1.out.trans hG6).trans hG7).trans hG8).trans hG9))
        go_wp2_with (fail)
        go_roundw
        case rel => exact ⟨k + 1, by omega, by go_num, by rw [HSTEP.out]; exact HO.out, HG.out.chg HCH.out, HG.out.heap HBOX.out (by decide)⟩
        case measure => simp [intOf]; omega
    · obtain rfl : L = k := by omega
      obtain ⟨b0, b1⟩ := two_cells hbox
      have HBOX1 := hid hbox
      have HO1 := hid hown
      have HCH1 := hid hch
      have hll := HLEN.out L
      have hMi : (M : Int) < 65536 := by omega
      have hMi0 : (0 : Int) ≤ (M : Int) := by omega
      have hHG := fun h1 h2 => half_any wr w.heap.size u4 (encK c.es L) (M : Int) hMi0 hMi HO1.out h1 h2
      have hHG := hHG (by omega) hch.size
      rw [← HZG.out] at hHG
      have HHG := hid hHG
      clear hown hch hbox hll hHG HSE HOK HC
      go_wp2_with (go_at_call 32; refine HHG.out.mono ?_; rintro e W3 ⟨u3, rfl, ho3, hc3⟩; obtain ⟨b0', b1'⟩ := two_cells ((GrB.of_own HO1.out (HLEN.out L).1 hc3).heap HBOX1.out (by decide)))
      have HG3 := hid (GrB.of_own HO1.out (HLEN.out L).1 hc3)
      have HC3 := HG3.out.chg HCH1.out
      have hbox3 := HG3.out.heap HBOX1.out (by decide)
      clear hc3 b0 b1 b0' b1'
      go_loopw [4, 8, 50] (fun s4 _ s50 wr => ∃ k : Nat, k ≤ M ∧ s50 = .int .i64 k ∧ OwY wr w.heap.size s4 (encGK c k) ∧ Chg [] w wr ∧ wr.heap[w.heap.size]? = some (.cells #[.slice ea L ec, .slice ga M gc] 25 (0, 0))) (fun _ _ i _ => M - (intOf i).toNat)
      case atStart => exact ⟨0, by omega, rfl, ho3, HC3, hbox3⟩
      case round =>
        clear ho3 hbox3 HHG HBOX1 HO1 HCH1 HG3 HC3
        obtain ⟨k, hk, rfl, hown, hch, hbox⟩ := hrel
        by_cases hlt : k < M
        · obtain ⟨bb, off, rfl, hbb, k0, k1⟩ := HCG.out k hlt
          have hlti : (k : Int) < (M : Int) := by omega
          replace k0 := hch.cell k0 (by simp)
          replace k1 := hch.cell k1 (by simp)
          have hstep := HSG.out k hlt
          obtain ⟨-, l1, l2, l3⟩ := grpOk_parts (HOKG.out k hlt)
          obtain ⟨x, hx⟩ : ∃ x, c.gs.getD k default = x := ⟨_, rfl⟩
          rw [hx] at k0 k1 hstep l1 l2 l3
          clear hx
          have hll := HLENG.out k
          obtain ⟨l, hle⟩ : ∃ l, encGK c k = l := ⟨_, rfl⟩
          rw [hle] at hown hstep hll
          obtain ⟨hl2, hl'⟩ := hll
          have hl : l.length ≤ 1000000 := by omega
          obtain ⟨X, hXe⟩ : ∃ X : ByteArray, (⟨x.base.toArray⟩ : ByteArray) = X := ⟨_, rfl⟩
          have hX : X.size ≤ 255 := by rw [← hXe, bs_size]; omega
          have hXs : (X.size : Int) = (x.base.length : Int) := by rw [← hXe, bs_size]
          have HSTEP : Hid (encGK c (k + 1) = l ++ [byteI (X.size : Int)] ++ X.data.toList ++ [byteI x.limit]) := hid (by
            rw [hstep, hXs, ← hXe]; unfold encGrp; simp [List.append_assoc])
          rw [hXe] at k0
          have HEU : Hid ([Value.int .u8 (IntKind.u8.wrap x.limit)] = [byteI x.limit].map eb) := hid (by rw [List.map_cons, List.map_nil, eb_byteI, wrap_u8'])
          have HCHa := hid (hch.trans (Chg.alloc [] wr (.cells #[.string X, .int .i64 x.limit] 54)))
          have HOWa := hid (hown.keep1 (Chg.alloc [] wr (.cells #[.string X, .int .i64 x.limit] 54)))
          have HBBa := hid (al_new (w := wr) (o := .cells #[.string X, .int .i64 x.limit] 54 (0, 0)) rfl)
          have hbw : bb < wr.heap.size := by have := hch.size; omega
          have HBOXa := hid hbox
          clear hown hch hbox hstep hXe hXs hle HSG HOKG
          go_wp2_with (fail)
          obtain ⟨wb, hwb⟩ : ∃ wb, wr.alloc (.cells #[.string X, .int .i64 x.limit] 54) = wb := ⟨_, rfl⟩
          obtain ⟨bx, hbx⟩ : ∃ bx, wr.heap.size = bx := ⟨_, rfl⟩
          have HBB : Hid (wb.heap[bx]? = some (.cells #[.string X, .int .i64 x.limit] 54 (0, 0))) := hid (by rw [← hwb, ← hbx]; exact HBBa.out)
          have HOW : Hid (OwY wb w.heap.size u4 l) := hid (by rw [← hwb]; exact HOWa.out)
          have HCH : Hid (Chg [] w wb) := hid (by rw [← hwb]; exact HCHa.out)
          have hBw : w.heap.size ≤ wb.heap.size := HCH.out.size
          have HBOX : Hid (wb.heap[w.heap.size]? = some (.cells #[.slice ea L ec, .slice (some ⟨bb, off, none⟩) M gc] 25 (0, 0))) := hid (by rw [← hwb]; exact al_old HBOXa.out)
          rw [hwb, hbx]
          clear hwb hbx HBBa HOWa HCHa k0 k1 hbw
          refine region_held (S := fun w' => w'.heap[bx]? = some (.cells #[.string X, .int .i64 x.limit] 54 (0, 0))) (by kernel_rfl) (n := 11) rfl (l := #[false, false, false, false, false, false, false, false, false, false, false]) rfl ?_
          obtain ⟨V1, hE1⟩ : ∃ W', wb.drew = W' := ⟨_, rfl⟩
          rw [hE1]
          have hA1 : Chg [] wb V1 := by rw [← hE1]; exact Chg.drew [] _
          have hS1 := hA1.heap HBB.out (by simp)
          have hG1 : GrB w.heap.size wb V1 := GrB.of_chg hA1
          clear hE1
          refine held_take' 0 54 (listed' := #[true, false, false, false, false, false, false, false, false, false, false]) (v := ?v28) (t' := ?t28) rfl rfl (by kernel_rfl) (by rfl) ?hv28 (fun _ _ _ h => h) hS1 rfl ?ht28 ?rest28; (case hv28 => (intro W' hW'; obtain ⟨q0, q1⟩ := two_cells hW'; go_simp; try with_reducible rfl)); case ht28 => (simp only [List.setIfInBounds_toArray, List.set_cons_zero, List.set_cons_succ]; with_reducible rfl)
          refine held_take' 1 55 (listed' := #[true, true, false, false, false, false, false, false, false, false, false]) (v := ?v29) (t' := ?t29) rfl rfl (by kernel_rfl) (by rfl) ?hv29 (fun _ _ _ h => h) hS1 rfl ?ht29 ?rest29; (case hv29 => (intro W' hW'; obtain ⟨q0, q1⟩ := two_cells hW'; go_simp; try with_reducible rfl)); case ht29 => (simp only [List.setIfInBounds_toArray, List.set_cons_zero, List.set_cons_succ]; with_reducible rfl)
          refine held_take' 2 56 (listed' := #[true, true, true, false, false, false, false, false, false, false, false]) (v := ?v30) (t' := ?t30) rfl rfl (by kernel_rfl) (by rfl) ?hv30 (fun _ _ _ h => h) hS1 rfl ?ht30 ?rest30; (case hv30 => (intro W' hW'; obtain ⟨q0, q1⟩ := two_cells hW'; go_simp; try with_reducible rfl)); case ht30 => (simp only [List.setIfInBounds_toArray, List.set_cons_zero, List.set_cons_succ]; with_reducible rfl)
          refine held_take' 5 59 (listed' := #[true, true, true, false, false, true, false, false, false, false, false]) (v := ?v31) (t' := ?t31) rfl rfl (by kernel_rfl) (by rfl) ?hv31 (fun _ _ _ h => h) hS1 rfl ?ht31 ?rest31; (case hv31 => (intro W' hW'; obtain ⟨q0, q1⟩ := two_cells hW'; go_simp; try with_reducible rfl)); case ht31 => (simp only [List.setIfInBounds_toArray, List.set_cons_zero, List.set_cons_succ]; with_reducible rfl)
          refine held_take' 6 60 (listed' := #[true, true, true, false, false, true, true, false, false, false, false]) (v := ?v32) (t' := ?t32) rfl rfl (by kernel_rfl) (by rfl) ?hv32 (fun _ _ _ h => h) hS1 rfl ?ht32 ?rest32; (case hv32 => (intro W' hW'; obtain ⟨q0, q1⟩ := two_cells hW'; go_simp; try with_reducible rfl)); case ht32 => (simp only [List.setIfInBounds_toArray, List.set_cons_zero, List.set_cons_succ]; with_reducible rfl)
          refine held_take' 7 61 (listed' := #[true, true, true, false, false, true, true, true, false, false, false]) (v := ?v33) (t' := ?t33) rfl rfl (by kernel_rfl) (by rfl) ?hv33 (fun _ _ _ h => h) hS1 rfl ?ht33 ?rest33; (case hv33 => (intro W' hW'; obtain ⟨q0, q1⟩ := two_cells hW'; go_simp; try with_reducible rfl)); case ht33 => (simp only [List.setIfInBounds_toArray, List.set_cons_zero, List.set_cons_succ]; with_reducible rfl)
          refine held_two 3 8 rfl rfl (by kernel_rfl) (by rfl) (by rfl) (fun K hK => ?_) (fun K hK => ?_)
          · go_simp
            have hna := al_new (w := V1) (o := .cells #[.string X] 9) rfl
            have hA2 := Chg.alloc [] V1 (.cells #[.string X] 9)
            have hS2 := hA2.heap hS1 (by simp)
            refine hK.out _ _ hS2 ?_
            clear hK K
            generalize V1.alloc (.cells #[.string X] 9) = V2 at hna hA2 hS2 ⊢
            generalize V1.heap.size = ga at hna ⊢
            have hG2 : GrB w.heap.size V1 V2 := GrB.of_chg hA2
            show wpAnyH _ _ _ _ _ _ #[true, true, true, true, false, true, true, true, false, false, false] _ _
            refine held_two 4 8 rfl rfl (by kernel_rfl) (by rfl) (by rfl) (fun K hK => ?_) (fun K hK => ?_)
            · go_simp
              refine (field_any V2 w.heap.size ga _ l X 9 (0, 0) (by decide) hna hX (HOW.out.keep1 (hA1.trans hA2)) hl hl2 (Nat.le_trans hBw (hG1.trans hG2).size)).mono ?_
              rintro e V3 ⟨u3, rfl, ho3, hG3⟩
              have hS3 := hG3.heap hS2 (by decide)
              refine hK.out _ _ hS3 ?_
              clear hK K
              show wpAnyH _ _ _ _ _ _ #[true, true, true, true, true, true, true, true, false, false, false] _ _
              refine held_one 8 rfl (by kernel_rfl) (by rfl) (fun K hK => ?_)
              go_simp
              have hnb := al_new (w := V3) (o := .cells #[.int .u8 (IntKind.u8.wrap x.limit)] 5) rfl
              have hA4 := Chg.alloc [] V3 (.cells #[.int .u8 (IntKind.u8.wrap x.limit)] 5)
              have hS4 := hA4.heap hS3 (by simp)
              refine hK.out _ _ hS4 ?_
              clear hK K
              generalize V3.alloc (.cells #[.int .u8 (IntKind.u8.wrap x.limit)] 5) = V4 at hnb hA4 hS4 ⊢
              generalize V3.heap.size = gb at hnb ⊢
              have hG4 : GrB w.heap.size V3 V4 := GrB.of_chg hA4
              show wpAnyH _ _ _ _ _ _ #[true, true, true, true, true, true, true, true, true, false, false] _ _
              refine held_one 9 rfl (by kernel_rfl) (by rfl) (fun K hK => ?_)
              refine apBw _ _ rfl w.heap.size 1 _ [byteI x.limit] HEU.out rfl (ho3.keep1 hA4) rfl _ hnb rfl (by simp; omega) (Nat.le_trans hBw (((hG1.trans hG2).trans hG3).trans hG4).size) ?_
              intro u5 V5 ho5 hc5
              have hG5 := GrB.of_own (ho3.keep1 hA4) (by simp; omega) hc5
              have hS5 := hG5.heap hS4 (by decide)
              refine hK.out _ _ hS5 ?_
              clear hK K
              show wpAnyH _ _ _ _ _ _ #[true, true, true, true, true, true, true, true, true, true, false] _ _
              refine held_take' 10 4 (listed' := #[true, true, true, true, true, true, true, true, true, true, true]) (v := ?v34) (t' := ?t34) rfl rfl (by kernel_rfl) (by rfl) ?hv34 (fun _ _ _ h => h) hS5 rfl ?ht34 ?rest34; (case hv34 => (intro W' hW'; obtain ⟨q0, q1⟩ := two_cells hW'; go_simp; try with_reducible rfl)); case ht34 => (simp only [List.setIfInBounds_toArray, List.set_cons_zero, List.set_cons_succ]; with_reducible rfl)
              refine wpAnyH_done (by kernel_rfl) ?_ _
              have HO := hid ho5
              have HG := hid ((((hG1.trans hG2).trans hG3).trans hG4).trans hG5)
              go_wp2_with (fail)
              go_roundw
              case rel => exact ⟨k + 1, by omega, by go_num, by rw [HSTEP.out]; exact HO.out, HG.out.chg HCH.out, HG.out.heap HBOX.out (by decide)⟩
              case measure => simp [intOf]; omega
            · go_simp
              have hnb := al_new (w := V2) (o := .cells #[.int .u8 (IntKind.u8.wrap x.limit)] 5) rfl
              have hA3 := Chg.alloc [] V2 (.cells #[.int .u8 (IntKind.u8.wrap x.limit)] 5)
              have hS3 := hA3.heap hS2 (by simp)
              refine hK.out _ _ hS3 ?_
              clear hK K
              generalize V2.alloc (.cells #[.int .u8 (IntKind.u8.wrap x.limit)] 5) = V3 at hnb hA3 hS3 ⊢
              generalize V2.heap.size = gb at hnb ⊢
              have hG3 : GrB w.heap.size V2 V3 := GrB.of_chg hA3
              show wpAnyH _ _ _ _ _ _ #[true, true, true, true, false, true, true, true, true, false, false] _ _
              refine held_one 4 rfl (by kernel_rfl) (by rfl) (fun K hK => ?_)
              go_simp
              refine (field_any V3 w.heap.size ga _ l X 9 (0, 0) (by decide) (hG3.heap hna (by decide)) hX (HOW.out.keep1 ((hA1.trans hA2).trans hA3)) hl hl2 (Nat.le_trans hBw ((hG1.trans hG2).trans hG3).size)).mono ?_
              rintro e V4 ⟨u4, rfl, ho4, hG4⟩
              have hS4 := hG4.heap hS3 (by decide)
              refine hK.out _ _ hS4 ?_
              clear hK K
              show wpAnyH _ _ _ _ _ _ #[true, true, true, true, true, true, true, true, true, false, false] _ _
              refine held_one 9 rfl (by kernel_rfl) (by rfl) (fun K hK => ?_)
              refine apBw _ _ rfl w.heap.size 1 _ [byteI x.limit] HEU.out rfl ho4 rfl _ (hG4.small hnb) rfl (by simp; omega) (Nat.le_trans hBw (((hG1.trans hG2).trans hG3).trans hG4).size) ?_
              intro u5 V5 ho5 hc5
              have hG5 := GrB.of_own ho4 (by simp; omega) hc5
              have hS5 := hG5.heap hS4 (by decide)
              refine hK.out _ _ hS5 ?_
              clear hK K
              show wpAnyH _ _ _ _ _ _ #[true, true, true, true, true, true, true, true, true, true, false] _ _
              refine held_take' 10 4 (listed' := #[true, true, true, true, true, true, true, true, true, true, true]) (v := ?v35) (t' := ?t35) rfl rfl (by kernel_rfl) (by rfl) ?hv35 (fun _ _ _ h => h) hS5 rfl ?ht35 ?rest35; (case hv35 => (intro W' hW'; obtain ⟨q0, q1⟩ := two_cells hW'; go_simp; try with_reducible rfl)); case ht35 => (simp only [List.setIfInBounds_toArray, List.set_cons_zero, List.set_cons_succ]; with_reducible rfl)
              refine wpAnyH_done (by kernel_rfl) ?_ _
              have HO := hid ho5
              have HG := hid ((((hG1.trans hG2).trans hG3).trans hG4).trans hG5)
              go_wp2_with (fail)
              go_roundw
              case rel => exact ⟨k + 1, by omega, by go_num, by rw [HSTEP.out]; exact HO.out, HG.out.chg HCH.out, HG.out.heap HBOX.out (by decide)⟩
              case measure => simp [intOf]; omega
          · go_simp
            have hnb := al_new (w := V1) (o := .cells #[.int .u8 (IntKind.u8.wrap x.limit)] 5) rfl
            have hA2 := Chg.alloc [] V1 (.cells #[.int .u8 (IntKind.u8.wrap x.limit)] 5)
            have hS2 := hA2.heap hS1 (by simp)
            refine hK.out _ _ hS2 ?_
            clear hK K
            generalize V1.alloc (.cells #[.int .u8 (IntKind.u8.wrap x.limit)] 5) = V2 at hnb hA2 hS2 ⊢
            generalize V1.heap.size = gb at hnb ⊢
            have hG2 : GrB w.heap.size V1 V2 := GrB.of_chg hA2
            show wpAnyH _ _ _ _ _ _ #[true, true, true, false, false, true, true, true, true, false, false] _ _
            refine held_one 3 rfl (by kernel_rfl) (by rfl) (fun K hK => ?_)
            go_simp
            have hna := al_new (w := V2) (o := .cells #[.string X] 9) rfl
            have hA3 := Chg.alloc [] V2 (.cells #[.string X] 9)
            have hS3 := hA3.heap hS2 (by simp)
            refine hK.out _ _ hS3 ?_
            clear hK K
            generalize V2.alloc (.cells #[.string X] 9) = V3 at hna hA3 hS3 ⊢
            generalize V2.heap.size = ga at hna ⊢
            have hG3 : GrB w.heap.size V2 V3 := GrB.of_chg hA3
            show wpAnyH _ _ _ _ _ _ #[true, true, true, true, false, true, true, true, true, false, false] _ _
            refine held_one 4 rfl (by kernel_rfl) (by rfl) (fun K hK => ?_)
            go_simp
            refine (field_any V3 w.heap.size ga _ l X 9 (0, 0) (by decide) hna hX (HOW.out.keep1 ((hA1.trans hA2).trans hA3)) hl hl2 (Nat.le_trans hBw ((hG1.trans hG2).trans hG3).size)).mono ?_
            rintro e V4 ⟨u4, rfl, ho4, hG4⟩
            have hS4 := hG4.heap hS3 (by decide)
            refine hK.out _ _ hS4 ?_
            clear hK K
            show wpAnyH _ _ _ _ _ _ #[true, true, true, true, true, true, true, true, true, false, false] _ _
            refine held_one 9 rfl (by kernel_rfl) (by rfl) (fun K hK => ?_)
            refine apBw _ _ rfl w.heap.size 1 _ [byteI x.limit] HEU.out rfl ho4 rfl _ ((hG3.trans hG4).small hnb) rfl (by simp; omega) (Nat.le_trans hBw (((hG1.trans hG2).trans hG3).trans hG4).size) ?_
            intro u5 V5 ho5 hc5
            have hG5 := GrB.of_own ho4 (by simp; omega) hc5
            have hS5 := hG5.heap hS4 (by decide)
            refine hK.out _ _ hS5 ?_
            clear hK K
            show wpAnyH _ _ _ _ _ _ #[true, true, true, true, true, true, true, true, true, true, false] _ _
            refine held_take' 10 4 (listed' := #[true, true, true, true, true, true, true, true, true, true, true]) (v := ?v36) (t' := ?t36) rfl rfl (by kernel_rfl) (by rfl) ?hv36 (fun _ _ _ h => h) hS5 rfl ?ht36 ?rest36; (case hv36 => (intro W' hW'; obtain ⟨q0, q1⟩ := two_cells hW'; go_simp; try with_reducible rfl)); case ht36 => (simp only [List.setIfInBounds_toArray, List.set_cons_zero, List.set_cons_succ]; with_reducible rfl)
            refine wpAnyH_done (by kernel_rfl) ?_ _
            have HO := hid ho5
            have HG := hid ((((hG1.trans hG2).trans hG3).trans hG4).trans hG5)
            go_wp2_with (fail)
            go_roundw
            case rel => exact ⟨k + 1, by omega, by go_num, by rw [HSTEP.out]; exact HO.out, HG.out.chg HCH.out, HG.out.heap HBOX.out (by decide)⟩
            case measure => simp [intOf]; omega
        · obtain rfl : M = k := by omega
          have hown' : OwY wr w.heap.size u4 (encC c) := by rw [← HALL.out]; exact hown
          go_wp2_with (fail)
          go_ret2
          exact ⟨_, rfl, hown', hch⟩

end Go.Proofs.YtldkmclfhjcicaaGreatDoor
