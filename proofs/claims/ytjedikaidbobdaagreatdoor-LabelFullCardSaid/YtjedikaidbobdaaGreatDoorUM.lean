import Derived.WideMake
import Derived.Test.YtjedikaidbobdaaGreatDoorUC
/- A map that is laid and asked at once (layer 26: the letter of a format). -/
namespace Go.Proofs.YtjedikaidbobdaaGreatDoor
open Go.RowKit
set_option linter.unusedVariables false
set_option linter.unusedSimpArgs false
section
variable {P : Program} {ops : Array Oper} {Q : Exit → Act → World → Prop} {a : Act} {w w' : World} {rest : List Oper} {o : Oper}
theorem wanted_none (hg : o.guard = none) : Region.wanted o (yielded ops a.tmps) = true := by simp [Region.wanted, hg]
theorem wpl_val {v : Value} (hg : o.guard = none) (hr : (execOp a.eval o).run P w = .ok (.value v) w') (h : wpList P ops Q rest (a.put o.dst v) w') : wpList P ops Q (o :: rest) a w := by
  unfold wpList
  rw [if_pos (wanted_none hg)]
  exact .inl (by unfold Oper.wp; rw [hr]; exact h)
theorem wpl_skip (hg : o.guard = none) (hr : (execOp a.eval o).run P w = .ok .skip w') (h : wpList P ops Q rest (a.put o.dst undef) w') : wpList P ops Q (o :: rest) a w := by
  unfold wpList
  rw [if_pos (wanted_none hg)]
  exact .inl (by unfold Oper.wp; rw [hr]; exact h)
theorem put_getD (a : Act) {d : Nat} (v : Value) (hd : d < a.tmps.size) (j : Nat) : (a.put (some d) v).tmps.getD j undef = if j = d then v else a.tmps.getD j undef := by
  by_cases e : j = d
  · subst e; simp [Act.put, Array.getElem?_setIfInBounds, hd]
  · have : d ≠ j := fun q => e q.symm
    simp [Act.put, Array.getElem?_setIfInBounds, this, e]
theorem put_size (a : Act) (d : Option Nat) (v : Value) : (a.put d v).tmps.size = a.tmps.size := by cases d <;> simp [Act.put]
end
section
variable {P : Program} (w : World)
theorem run_mapUpdate_int (mty kt et : TypeId) (r clock : Nat) (es : Array MapEntry) (k : Int) (val : Value) (hm : P.underlying mty = some (.map kt et)) (hk : P.underlying kt = some (.int .i64)) (hb : w.heap[r]? = some (.map es clock))
    (hf : Instr.findNow (.int .i64) (.int .i64 k) es.toList 0 = some none) :
    (Instr.mapUpdate mty (.map (some r)) (.int .i64 k) val).run P w = .ok () { w with heap := w.heap.setIfInBounds r (.map (es.push { key := .int .i64 k, val := val, born := clock }) (clock + 1)) } := by
  have hc : (Instr.checkKey false 10000 kt (.int .i64 k)).run P w = .ok () w := MapKept.run_checkKey (k := .int .i64 k) hk (by simp [MapKept.IsKey]) false 9999
  simp [Instr.mapUpdate, run_underlying hm, MapKept.run_getObj_map hb, hc, MapKept.run_findKey hk hf, MapKept.run_setObj_map _ hb, Result.andThen]
def ansO (o : Option (Nat × Value)) (z : Value) : Value := match o with | some (_, v) => v | none => z
theorem run_lookup_int (mty kt et : TypeId) (r clock : Nat) (es : Array MapEntry) (k : Int) (hm : P.underlying mty = some (.map kt et)) (hk : P.underlying kt = some (.int .i64)) (hb : w.heap[r]? = some (.map es clock))
    {o : Option (Nat × Value)} (hf : Instr.findNow (.int .i64) (.int .i64 k) es.toList 0 = some o) {z : Value} (hz : (zeroValue et).run P w = .ok z w) :
    (Instr.lookup mty (.map (some r)) (.int .i64 k) false).run P w = .ok (ansO o z) w := by
  have hc : ∀ b, (Instr.checkKey b 10000 kt (.int .i64 k)).run P w = .ok () w := fun b => MapKept.run_checkKey (k := .int .i64 k) hk (by simp [MapKept.IsKey]) b 9999
  cases o with
  | none => simp [Instr.lookup, run_underlying hm, MapKept.run_getObj_map hb, hc, MapKept.run_findKey hk hf, hz, Result.andThen, ansO]
  | some q => obtain ⟨i, v⟩ := q; simp [Instr.lookup, run_underlying hm, MapKept.run_getObj_map hb, hc, MapKept.run_findKey hk hf, Result.andThen, ansO]
end
theorem run_fieldAt44 (w : World) (b : Nat) : (Instr.fieldAt 44 (.pointer (some ⟨b, 0, none⟩)) 1).run Tryz.prog w = .ok (.pointer (some ⟨b, 1, none⟩)) w := by
  obtain ⟨fields, hu, hfs⟩ := tt44.k
  have hs := tt41.sizeOf w
  have h1 := congrArg (fun l => l[1]?) hfs
  simp only [List.getElem?_map] at h1
  cases hg : fields.toList[1]? with
  | none => rw [hg] at h1; cases h1
  | some g =>
    rw [hg] at h1
    simp only [Option.map_some, List.getElem?_cons_succ, List.getElem?_cons_zero, Option.some.injEq, Prod.mk.injEq] at h1
    have hg' : fields[1]? = some g := by simpa using hg
    obtain ⟨h1, h2⟩ := h1
    rw [← h2] at hs
    simp [Instr.fieldAt, run_underlying hu, hg', Instr.sureAddr, fieldPlace, hs, h1, Addr.add_lit]
theorem run_fieldAt41 (w : World) (b : Nat) : (Instr.fieldAt 41 (.pointer (some ⟨b, 1, none⟩)) 1).run Tryz.prog w = .ok (.pointer (some ⟨b, 2, none⟩)) w := by
  obtain ⟨fields, hu, hfs⟩ := tt41.k
  have hs := tt3.sizeOf w
  have h1 := congrArg (fun l => l[1]?) hfs
  simp only [List.getElem?_map] at h1
  cases hg : fields.toList[1]? with
  | none => rw [hg] at h1; cases h1
  | some g =>
    rw [hg] at h1
    simp only [Option.map_some, List.getElem?_cons_succ, List.getElem?_cons_zero, Option.some.injEq, Prod.mk.injEq] at h1
    have hg' : fields[1]? = some g := by simpa using hg
    obtain ⟨h1, h2⟩ := h1
    rw [← h2] at hs
    simp [Instr.fieldAt, run_underlying hu, hg', Instr.sureAddr, fieldPlace, hs, h1, Addr.add_lit]
theorem run_loadAt3 (w : World) {x : Addr} {u : Value} (hc : w.cell? x = some u) : (Instr.loadAt 3 (.pointer (some x))).run Tryz.prog w = .ok u w := by
  have hag := tt3.isAgg w
  have hrow : TK.row (.int .i64) = false := rfl
  simp [Instr.loadAt, Instr.sureAddr, loadVar, hag, hrow, run_load, hc]
theorem run_zero9 (w : World) : (zeroValue 9).run Tryz.prog w = .ok (.string ⟨#[]⟩) w := by
  have h : Tryz.prog.info? 9 = some Tryz.t9 := by kernel_rfl
  simp only [zeroValue, Sem.run_bind, typeInfo]
  simp [h]
  try rfl
def fmtS (k : Int) : Tb := if k = 1 then [70] else if k = 2 then [86] else if k = 3 then [85] else []
theorem chg_new {L : List Nat} {w0 w : World} (h : Chg L w0 w) {r : Nat} (hr : w0.heap.size ≤ r) (o : Obj) : Chg L w0 { w with heap := w.heap.setIfInBounds r o } :=
  ⟨h.os, h.tape, h.output, by simpa using h.size, fun j hj hn => by
    rw [← h.block j hj hn]
    simp only [Array.getElem?_setIfInBounds]
    split
    · rename_i e; omega
    · rfl⟩
structure IsOp (o : Oper) (d : Option Nat) (op : Op) : Prop where
  dst : o.dst = d
  op : o.op = op
  guard : o.guard = none
theorem vwp_fmt {F : Env} (hF : F.n = 63) {s : St} {Q : Exit → St → Prop} {id : Nat} {x0 x1 x2 x3 x4 x5 x6 x7 x8 x9 : Oper} (h0 : IsOp x0 (some 11) (.makeMap 97 none))
    (h1 : IsOp x1 none (.insert 97 (.tmp 11) (.const (.int .i64 1)) (.const (.string ⟨#[70]⟩)))) (h2 : IsOp x2 none (.insert 97 (.tmp 11) (.const (.int .i64 2)) (.const (.string ⟨#[86]⟩))))
    (h3 : IsOp x3 none (.insert 97 (.tmp 11) (.const (.int .i64 3)) (.const (.string ⟨#[85]⟩)))) (h4 : IsOp x4 (some 12) (.move (.tmp 11))) (h5 : IsOp x5 (some 13) (.fieldAddr 44 (.tmp 7) 1)) (h6 : IsOp x6 (some 14) (.fieldAddr 41 (.tmp 13) 1))
    (h7 : IsOp x7 (some 15) (.load 3 (.tmp 14))) (h8 : IsOp x8 (some 16) (.lookup 97 (.tmp 12) (.tmp 15) false)) (h9 : IsOp x9 (some 9) (.assign (.tmp 16)))
    {c : List V} {k : Int} (hx : s.t 7 = .ptr 7 0) (ho : s.o 7 = some (.box 44 c)) (hk : c[2]? = some (.int .i64 k))
    (h : Q .normal (((((((s.put (some 11) .any).put (some 12) .any).put (some 13) .any).put (some 14) .any).put (some 15) .any).put (some 16) .any).put (some 9) (.str (fmtS k)))) :
    VWp Tryz.prog F (.region id #[x0, x1, x2, x3, x4, x5, x6, x7, x8, x9] false) Q s := fun β a W hs => by
  refine wp_region ?_
  have he := wpOps_eq_wpList (P := Tryz.prog) (ops := #[x0, x1, x2, x3, x4, x5, x6, x7, x8, x9]) (Q := fun e a' W' => ∃ s' β', Q e s' ∧ Sim F β' s' a' W') #[x0, x1, x2, x3, x4, x5, x6, x7, x8, x9].toList 0 (fun j => by simp)
  rw [Array.length_toList] at he
  rw [List.range_eq_range', he]
  clear he
  have hsz : a.tmps.size = 63 := by rw [hs.size, hF]
  -- the box
  have hp : a.tmps.getD 7 undef = .pointer (some ⟨β.pb 7, 0, none⟩) := by
    have := hs.frame 7
    rw [hx] at this; exact this
  obtain ⟨_, cs, rs, g1, g2, g3⟩ := hs.objs.box 7 44 c ho
  obtain ⟨hc2, hc2e⟩ := List.getElem?_eq_some_iff.1 hk
  obtain ⟨u, hu, hru⟩ := RepL.get g3 2 hc2
  rw [hc2e] at hru
  cases hru
  -- the map's worlds
  let g := W.heap.size
  obtain ⟨W1, hW1⟩ : ∃ W1, W1 = W.alloc (.map #[] 0) := ⟨_, rfl⟩
  have m1 : W1.heap[g]? = some (.map #[] 0) := by rw [hW1]; exact heap_alloc_new W _
  have c1 : Chg [] W W1 := by rw [hW1]; exact Chg.alloc [] W _
  obtain ⟨W2, hW2⟩ : ∃ W2, W2 = ({ W1 with heap := W1.heap.setIfInBounds g (.map (#[].push { key := .int .i64 1, val := .string ⟨#[70]⟩, born := 0 }) (0 + 1)) } : World) := ⟨_, rfl⟩
  have m2 : W2.heap[g]? = some (.map #[{ key := .int .i64 1, val := .string ⟨#[70]⟩, born := 0 }] 1) := by
    rw [hW2]; simp only [Array.getElem?_setIfInBounds, if_true]; rw [if_pos (lt_of_block m1)]; rfl
  have c2 : Chg [] W W2 := by rw [hW2]; exact chg_new c1 (Nat.le_refl _) _
  obtain ⟨W3, hW3⟩ : ∃ W3, W3 = ({ W2 with heap := W2.heap.setIfInBounds g (.map (#[{ key := .int .i64 1, val := .string ⟨#[70]⟩, born := 0 }].push { key := .int .i64 2, val := .string ⟨#[86]⟩, born := 1 }) (1 + 1)) } : World) := ⟨_, rfl⟩
  have m3 : W3.heap[g]? = some (.map #[{ key := .int .i64 1, val := .string ⟨#[70]⟩, born := 0 }, { key := .int .i64 2, val := .string ⟨#[86]⟩, born := 1 }] 2) := by
    rw [hW3]; simp only [Array.getElem?_setIfInBounds, if_true]; rw [if_pos (lt_of_block m2)]; rfl
  have c3 : Chg [] W W3 := by rw [hW3]; exact chg_new c2 (Nat.le_refl _) _
  obtain ⟨W4, hW4⟩ : ∃ W4, W4 = ({ W3 with heap := W3.heap.setIfInBounds g (.map (#[{ key := .int .i64 1, val := .string ⟨#[70]⟩, born := 0 }, { key := .int .i64 2, val := .string ⟨#[86]⟩, born := 1 }].push { key := .int .i64 3, val := .string ⟨#[85]⟩, born := 2 }) (2 + 1)) } : World) := ⟨_, rfl⟩
  have m4 : W4.heap[g]? = some (.map #[{ key := .int .i64 1, val := .string ⟨#[70]⟩, born := 0 }, { key := .int .i64 2, val := .string ⟨#[86]⟩, born := 1 }, { key := .int .i64 3, val := .string ⟨#[85]⟩, born := 2 }] 3) := by
    rw [hW4]; simp only [Array.getElem?_setIfInBounds, if_true]; rw [if_pos (lt_of_block m3)]; rfl
  have c4 : Chg [] W W4 := by rw [hW4]; exact chg_new c3 (Nat.le_refl _) _
  have um : Tryz.prog.underlying 97 = some (.map 3 9) := by kernel_rfl
  have uk : Tryz.prog.underlying 3 = some (.int .i64) := by kernel_rfl
  obtain ⟨d0, o0, ty0, p0, a0, gd0⟩ := x0
  obtain ⟨d1, o1, ty1, p1, a1, gd1⟩ := x1
  obtain ⟨d2, o2, ty2, p2, a2, gd2⟩ := x2
  obtain ⟨d3, o3, ty3, p3, a3, gd3⟩ := x3
  obtain ⟨d4, o4, ty4, p4, a4, gd4⟩ := x4
  obtain ⟨d5, o5, ty5, p5, a5, gd5⟩ := x5
  obtain ⟨d6, o6, ty6, p6, a6, gd6⟩ := x6
  obtain ⟨d7, o7, ty7, p7, a7, gd7⟩ := x7
  obtain ⟨d8, o8, ty8, p8, a8, gd8⟩ := x8
  obtain ⟨d9, o9, ty9, p9, a9, gd9⟩ := x9
  obtain ⟨z1, z2, z3⟩ := h0; simp only at z1 z2 z3; subst z1; subst z2; subst z3
  obtain ⟨z1, z2, z3⟩ := h1; simp only at z1 z2 z3; subst z1; subst z2; subst z3
  obtain ⟨z1, z2, z3⟩ := h2; simp only at z1 z2 z3; subst z1; subst z2; subst z3
  obtain ⟨z1, z2, z3⟩ := h3; simp only at z1 z2 z3; subst z1; subst z2; subst z3
  obtain ⟨z1, z2, z3⟩ := h4; simp only at z1 z2 z3; subst z1; subst z2; subst z3
  obtain ⟨z1, z2, z3⟩ := h5; simp only at z1 z2 z3; subst z1; subst z2; subst z3
  obtain ⟨z1, z2, z3⟩ := h6; simp only at z1 z2 z3; subst z1; subst z2; subst z3
  obtain ⟨z1, z2, z3⟩ := h7; simp only at z1 z2 z3; subst z1; subst z2; subst z3
  obtain ⟨z1, z2, z3⟩ := h8; simp only at z1 z2 z3; subst z1; subst z2; subst z3
  obtain ⟨z1, z2, z3⟩ := h9; simp only at z1 z2 z3; subst z1; subst z2; subst z3
  refine wpl_val (w' := W1) (v := .map (some g)) rfl (by subst hW1; rfl) ?_
  have e11 : (a.put (some 11) (.map (some g))).tmps.getD 11 undef = .map (some g) := by rw [put_getD a _ (by omega)]; rfl
  obtain ⟨A1, hA1⟩ : ∃ A1, A1 = a.put (some 11) (.map (some g)) := ⟨_, rfl⟩
  rw [← hA1] at e11
  show wpList _ _ _ _ (a.put (some 11) _) _
  rw [← hA1]
  refine wpl_skip (w' := W2) rfl (by
    show ((do Instr.mapUpdate 97 (A1.tmps.getD 11 undef) (.int .i64 1) (.string ⟨#[70]⟩); pure Next.skip : Sem Next)).run _ W1 = _
    rw [e11, hW2]
    simp only [Sem.run_bind, run_mapUpdate_int W1 97 3 9 g 0 #[] 1 _ um uk m1 rfl, Result.andThen_ok, Sem.run_pure]) ?_
  show wpList _ _ _ _ (A1.put none _) _
  have en : ∀ (A : Act) (v : Value), A.put none v = A := fun A v => rfl
  rw [en]
  refine wpl_skip (w' := W3) rfl (by
    show ((do Instr.mapUpdate 97 (A1.tmps.getD 11 undef) (.int .i64 2) (.string ⟨#[86]⟩); pure Next.skip : Sem Next)).run _ W2 = _
    rw [e11, hW3]
    simp only [Sem.run_bind, run_mapUpdate_int W2 97 3 9 g 1 _ 2 _ um uk m2 rfl, Result.andThen_ok, Sem.run_pure]) ?_
  show wpList _ _ _ _ (A1.put none _) _
  rw [en]
  refine wpl_skip (w' := W4) rfl (by
    show ((do Instr.mapUpdate 97 (A1.tmps.getD 11 undef) (.int .i64 3) (.string ⟨#[85]⟩); pure Next.skip : Sem Next)).run _ W3 = _
    rw [e11, hW4]
    simp only [Sem.run_bind, run_mapUpdate_int W3 97 3 9 g 2 _ 3 _ um uk m3 rfl, Result.andThen_ok, Sem.run_pure]) ?_
  show wpList _ _ _ _ (A1.put none _) _
  rw [en]
  have s1 : A1.tmps.size = 63 := by rw [hA1, put_size, hsz]
  -- the move
  refine wpl_val (w' := W4) (v := .map (some g)) rfl (by
    show (pure (Next.value (A1.tmps.getD 11 undef)) : Sem Next).run _ W4 = _
    rw [e11]; rfl) ?_
  show wpList _ _ _ _ (A1.put (some 12) _) _
  obtain ⟨A2, hA2⟩ : ∃ A2, A2 = A1.put (some 12) (.map (some g)) := ⟨_, rfl⟩
  rw [← hA2]
  have s2 : A2.tmps.size = 63 := by rw [hA2, put_size, s1]
  have k2 : A2.tmps.getD 12 undef = .map (some g) := by rw [hA2, put_getD A1 _ (by omega)]; rfl
  have e7 : A2.tmps.getD 7 undef = .pointer (some ⟨β.pb 7, 0, none⟩) := by
    rw [hA2, put_getD A1 _ (by omega), if_neg (by decide), hA1, put_getD a _ (by omega), if_neg (by decide)]; exact hp
  -- the field
  refine wpl_val (w' := W4) (v := .pointer (some ⟨β.pb 7, 1, none⟩)) rfl (by
    show ((do pure (Next.value (← Instr.fieldAt 44 (A2.tmps.getD 7 undef) 1)) : Sem Next)).run _ W4 = _
    rw [e7]
    simp only [Sem.run_bind, run_fieldAt44, Result.andThen_ok, Sem.run_pure]) ?_
  show wpList _ _ _ _ (A2.put (some 13) _) _
  obtain ⟨A3, hA3⟩ : ∃ A3, A3 = A2.put (some 13) (.pointer (some ⟨β.pb 7, 1, none⟩)) := ⟨_, rfl⟩
  rw [← hA3]
  have s3 : A3.tmps.size = 63 := by rw [hA3, put_size, s2]
  have e13 : A3.tmps.getD 13 undef = .pointer (some ⟨β.pb 7, 1, none⟩) := by rw [hA3, put_getD A2 _ (by omega)]; rfl
  have k3 : A3.tmps.getD 12 undef = .map (some g) := by rw [hA3, put_getD A2 _ (by omega), if_neg (by decide)]; exact k2
  refine wpl_val (w' := W4) (v := .pointer (some ⟨β.pb 7, 2, none⟩)) rfl (by
    show ((do pure (Next.value (← Instr.fieldAt 41 (A3.tmps.getD 13 undef) 1)) : Sem Next)).run _ W4 = _
    rw [e13]
    simp only [Sem.run_bind, run_fieldAt41, Result.andThen_ok, Sem.run_pure]) ?_
  show wpList _ _ _ _ (A3.put (some 14) _) _
  obtain ⟨A4, hA4⟩ : ∃ A4, A4 = A3.put (some 14) (.pointer (some ⟨β.pb 7, 2, none⟩)) := ⟨_, rfl⟩
  rw [← hA4]
  have s4 : A4.tmps.size = 63 := by rw [hA4, put_size, s3]
  have e14 : A4.tmps.getD 14 undef = .pointer (some ⟨β.pb 7, 2, none⟩) := by rw [hA4, put_getD A3 _ (by omega)]; rfl
  have k4 : A4.tmps.getD 12 undef = .map (some g) := by rw [hA4, put_getD A3 _ (by omega), if_neg (by decide)]; exact k3
  have hcell : W4.cell? ⟨β.pb 7, 2, none⟩ = some (.int .i64 k) := by
    have hbox := c4.heap g1 (by simp)
    rw [cell_of_row _ _ 2 _ _ _ hbox, List.getElem?_toArray, List.getElem?_append_left (List.getElem?_eq_some_iff.1 hu).1]; exact hu
  refine wpl_val (w' := W4) (v := .int .i64 k) rfl (by
    show ((do pure (Next.value (← Instr.loadAt 3 (A4.tmps.getD 14 undef))) : Sem Next)).run _ W4 = _
    rw [e14]
    simp only [Sem.run_bind, run_loadAt3 _ hcell, Result.andThen_ok, Sem.run_pure]) ?_
  show wpList _ _ _ _ (A4.put (some 15) _) _
  obtain ⟨A5, hA5⟩ : ∃ A5, A5 = A4.put (some 15) (.int .i64 k) := ⟨_, rfl⟩
  rw [← hA5]
  have s5 : A5.tmps.size = 63 := by rw [hA5, put_size, s4]
  have e15 : A5.tmps.getD 15 undef = .int .i64 k := by rw [hA5, put_getD A4 _ (by omega)]; rfl
  have k5 : A5.tmps.getD 12 undef = .map (some g) := by rw [hA5, put_getD A4 _ (by omega), if_neg (by decide)]; exact k4
  -- the question
  obtain ⟨o, ho2, ho3⟩ : ∃ o : Option (Nat × Value), Instr.findNow (.int .i64) (.int .i64 k) [{ key := .int .i64 1, val := .string ⟨#[70]⟩, born := 0 }, { key := .int .i64 2, val := .string ⟨#[86]⟩, born := 1 }, { key := .int .i64 3, val := .string ⟨#[85]⟩, born := 2 }] 0 = some o ∧
      ansO o (.string ⟨#[]⟩) = .string ⟨(fmtS k).toArray⟩ := by
    unfold fmtS
    simp only [Instr.findNow, Instr.sameNow, if_true]
    by_cases k1 : k = 1
    · subst k1; exact ⟨_, rfl, rfl⟩
    · by_cases k2 : k = 2
      · subst k2; exact ⟨_, rfl, rfl⟩
      · by_cases k3 : k = 3
        · subst k3; exact ⟨_, rfl, rfl⟩
        · rw [if_neg k1, if_neg k2, if_neg k3]
          have b1 : (k == 1) = false := by simpa using k1
          have b2 : (k == 2) = false := by simpa using k2
          have b3 : (k == 3) = false := by simpa using k3
          rw [b1, b2, b3]
          exact ⟨_, rfl, rfl⟩
  have hz : (zeroValue 9).run Tryz.prog W4 = .ok (.string ⟨#[]⟩) W4 := run_zero9 W4
  refine wpl_val (w' := W4) (v := .string ⟨(fmtS k).toArray⟩) rfl (by
    show ((do pure (Next.value (← Instr.lookup 97 (A5.tmps.getD 12 undef) (A5.tmps.getD 15 undef) false)) : Sem Next)).run _ W4 = _
    rw [k5, e15]
    simp only [Sem.run_bind, run_lookup_int W4 97 3 9 g 3 _ k um uk m4 ho2 hz, Result.andThen_ok, Sem.run_pure, ho3]) ?_
  show wpList _ _ _ _ (A5.put (some 16) _) _
  obtain ⟨A6, hA6⟩ : ∃ A6, A6 = A5.put (some 16) (.string ⟨(fmtS k).toArray⟩) := ⟨_, rfl⟩
  rw [← hA6]
  have s6 : A6.tmps.size = 63 := by rw [hA6, put_size, s5]
  have e16 : A6.tmps.getD 16 undef = .string ⟨(fmtS k).toArray⟩ := by rw [hA6, put_getD A5 _ (by omega)]; rfl
  refine wpl_val (w' := W4) (v := .string ⟨(fmtS k).toArray⟩) rfl (by
    show (pure (Next.value (A6.tmps.getD 16 undef)) : Sem Next).run _ W4 = _
    rw [e16]; rfl) ?_
  have hb : ∀ d : Nat, d < 63 → ∀ i, some d = some i → i < F.n := fun d hd i hi => by injection hi with hi; omega
  have n0 : ∀ (st : St), ∀ r ∈ V.any.refs, RefOk st.o r := fun st r hr => by cases hr
  have h4 := hs.world c4
  have h5 := h4.put (some 11) (hb 11 (by omega)) (x := .any) (v := .map (some g)) (n0 _) trivial
  have h6 := h5.put (some 12) (hb 12 (by omega)) (x := .any) (v := .map (some g)) (n0 _) trivial
  have h7 := h6.put (some 13) (hb 13 (by omega)) (x := .any) (v := .pointer (some ⟨β.pb 7, 1, none⟩)) (n0 _) trivial
  have h8 := h7.put (some 14) (hb 14 (by omega)) (x := .any) (v := .pointer (some ⟨β.pb 7, 2, none⟩)) (n0 _) trivial
  have h9 := h8.put (some 15) (hb 15 (by omega)) (x := .any) (v := .int .i64 k) (n0 _) trivial
  have h10 := h9.put (some 16) (hb 16 (by omega)) (x := .any) (v := .string ⟨(fmtS k).toArray⟩) (n0 _) trivial
  have h11 := h10.put (some 9) (hb 9 (by omega)) (x := .str (fmtS k)) (v := .string ⟨(fmtS k).toArray⟩) (fun r hr => by cases hr) rfl
  rw [← hA1, ← hA2, ← hA3, ← hA4, ← hA5, ← hA6] at h11
  exact ⟨_, β, h, h11⟩
end Go.Proofs.YtjedikaidbobdaaGreatDoor
