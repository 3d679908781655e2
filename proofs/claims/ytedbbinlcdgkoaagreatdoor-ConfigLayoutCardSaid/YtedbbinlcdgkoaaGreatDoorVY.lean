import Derived.RangeFuncFrom
import Derived.TacticsIn
import Derived.TacticsInMore
import Derived.CallsIn
import Derived.OwnWalkIn
import Derived.Test.YtedbbinlcdgkoaaGreatDoorVX
/- The value machine: a loop over a function whose rounds put what is yielded at the end of a slice. No program in sight. -/
namespace Go.Proofs.YtedbbinlcdgkoaaGreatDoor
open Go.RowKit Go.Shelf
set_option linter.unusedVariables false
set_option linter.unusedSimpArgs false
def actAt (a : Act) (p q : Nat) (v : Value) : Act := { tmps := (a.tmps.setIfInBounds p v).setIfInBounds q v, defers := [] }
theorem rangeF1 {P : Program} {α : Type} {g : Operand} {p : Nat} {assign body : Code} {Q : Exit → Act → World → Prop} {a : Act} {w : World} (q : Nat) (n : Nat)
    (h1 : 1 ≤ n) {gf : Nat} {lb : Array Value} (hg : a.eval g = .func (.func gf) #[] lb) (eg : ∀ args w, (callFunc gf args).run P w = .ok (.enter gf args) w)
    (enc : α → Value) {Kp : World → World → Prop} {S Sp : List α → Prop} {N : Nat} (hseq : SeqStopsK Fence.wide (n - 1) P gf lb (fun x => #[enc x]) Kp S Sp N w)
    (hKt : ∀ {A B C : World}, Kp A B → Kp B C → Kp A C) (hKb : ∀ (W : World) (l : Nat) (o o' : Obj), w.heap.size ≤ l → W.heap[l]? = some o → o.isCells = false → o.isWalk = false → Kp W (W.putObj l o'))
    (I : List α → World → Prop) (Ix : Code → List α → World → Prop) (hI : OwnFrom w.heap.size I) (hIx : ∀ c, OwnFrom w.heap.size (Ix c)) (h0 : I [] w)
    (hassign : ∀ (l : Nat) (x : α) (W : World) (K : Act → World → Prop), K (actAt a p q (enc x)) W →
      assign.wpIn (Fence.wide.inRound l) (n - 1 - 1) P (Exit.then K (fun _ _ _ => False)) { tmps := a.tmps.setIfInBounds p (enc x), defers := [] } W)
    (hbody : ∀ (l : Nat) (pre : List α) (x : α) (W : World), I pre W → pre.length < N → body.wpIn (Fence.wide.inRound l) (n - 1 - 1) P (ownPostK Kp I Ix (pre ++ [x]) W) (actAt a p q (enc x)) W)
    (hdone : ∀ (D : Nat) (xs : List α) (W : World), w.heap.size ≤ D → S xs → I xs W → W.heap[D]? = some (.deferred (some [])) → Q .normal { a with defers := { target := .collected D, args := #[] } :: a.defers } W)
    (hstop : ∀ (D : Nat) (c : Code) (pre : List α) (W : World), w.heap.size ≤ D → Sp pre → Ix c pre W → W.heap[D]? = some (.deferred (some [])) → c.wp P Q { a with defers := { target := .collected D, args := #[] } :: a.defers } W) :
    (Code.rangeFunc g #[p] assign body).wp P Q a w :=
  (wpIn_wide (n := n)).1 (wpIn_rangeFunc_ownF (F := Fence.wide) (n := n) rfl h1 hg trivial eg hseq hKt hKb (Below.refl _ _) (fun _ => rfl) I Ix hI hIx h0 (fun x => actAt a p q (enc x))
    (fun l x W K hK => by simpa using hassign l x W K hK) hbody hdone (fun D c pre W h h2 h3 h4 => wpIn_wide.2 (hstop D c pre W h h2 h3 h4)))
theorem KeepsOthers.of_chg_cells {L : List Nat} {W W' : World} (h : Chg L W W') (hL : ∀ k ∈ L, ∃ c e f, W.heap[k]? = some (.cells c e f)) : KeepsOthers W W' :=
  ⟨h.size, fun k o hk ho => h.heap hk (fun hm => by
    obtain ⟨c, e, f, hc⟩ := hL k hm
    rw [hc] at hk; cases hk; simp [Obj.isCells] at ho)⟩
def strW (x : List UInt8) : Value := .string ⟨x.toArray⟩
set_option maxHeartbeats 2000000 in
theorem collect_in {P : Program} {τ : TT} (hτ : TTOk P τ) {tS tE : TypeId} (hS : τ tS = some ⟨.slc tE, 1, 24, [Value.slice none 0 0], false⟩) (hE : τ tE = some ⟨.str, 1, 16, [Value.string ⟨#[]⟩], false⟩) {F : Env} {β : Bet} {s : St} {a a0 : Act} {W : World} (h : Sim F β s a W)
    {id x9 q d1 d2 d3 d4 d : Nat} {rows : List (List V)} {x : List UInt8} {ty1 ty2 ty3 ty4 ty5 : TypeId} {p1 p2 p3 p4 p5 : String} {f1 f2 f3 f4 f5 : Array Edge} {fc : Fence} {m : Nat} {Q : Exit → Act → World → Prop} (hfn : ∀ f, fc.fn f)
    (hx : s.t x9 = .ptr x9 0) (ho : s.o x9 = some (.box tS [.own d rows.length])) (hd : s.o d = some (.arr 1 tE rows)) (hne : d ≠ x9) (hlen : rows.length ≤ 100000000)
    (h9 : a0.tmps.getD x9 undef = a.tmps.getD x9 undef) (hq : a0.tmps.getD q undef = strW x) (hb1 : d1 < a0.tmps.size) (hb2 : d2 < a0.tmps.size) (hb3 : d3 < a0.tmps.size) (hb4 : d4 < a0.tmps.size)
    (n1 : d1 ≠ q) (n2 : d2 ≠ d1) (n3 : d3 ≠ d1) (n4 : d1 ≠ x9) (n5 : d2 ≠ x9) (n6 : d3 ≠ x9) (n7 : d4 ≠ x9)
    (hQ : ∀ (a' : Act) (W' : World) (β' : Bet), KeepsOthers W W' → Sim F β' ⟨s.t, up (up s.o d (some (.arr 1 tE (rows ++ [[.str x]])))) x9 (some (.box tS [.own d (rows.length + 1)]))⟩ a W' → (∀ o, β'.pb o = β.pb o) → Q .normal a' W') :
    (Code.region id [(⟨some d1, .load tS (.tmp x9), ty1, p1, f1, none⟩ : Oper), ⟨some d2, .move (.tmp q), ty2, p2, f2, none⟩, ⟨some d3, .buildSlice tS 1 #[(0, .tmp d2)], ty3, p3, f3, none⟩,
      ⟨some d4, .call { callee := .builtin .append, args := #[.tmp d1, .tmp d3], argTypes := #[tS, tS] }, ty4, p4, f4, none⟩, ⟨none, .store tS (.tmp x9) (.tmp d4), ty5, p5, f5, none⟩].toArray false).wpIn fc m P Q a0 W := by
  have hokS := hτ tS _ hS
  have hokE := hτ tE _ hE
  have hkS : P.underlying tS = some (.slice tE) := hokS.k
  -- the world
  obtain ⟨hb, cs, rs, g1, g2, g3⟩ := h.objs.box x9 tS _ ho
  obtain ⟨u, us, rfl, gu, gus⟩ := g3
  have gus : us = [] := gus
  subst gus
  have hu : u = β.sv d := gu.2 _ (by show svOf _ _ d _ = _; unfold svOf; simp only [hd, if_true])
  subst hu
  obtain ⟨k1, k2, hloc, xs, hown, one1, hrep⟩ := h.objs.arr d 1 tE rows hd
  have hptr : a.tmps.getD x9 undef = .pointer (some ⟨β.pb x9, 0, none⟩) := by
    have := h.frame x9
    rw [hx] at this; exact this
  rw [hptr] at h9
  have hcell : W.cell? ⟨β.pb x9, 0, none⟩ = some (β.sv d) := by rw [cell_of_row W _ 0 _ _ _ g1]; simp
  have hload : (Instr.loadAt tS (.pointer (some ⟨β.pb x9, 0, none⟩))).run P W = .ok (β.sv d) W := by
    have hag := hokS.isAgg W
    simp only [Instr.loadAt, Instr.sureAddr, Sem.run_bind, Sem.run_pure, Result.andThen_ok, loadVar, hag, TK.row, Bool.false_eq_true, if_false]
    simp [run_load, hcell]
  obtain ⟨W1, hW1⟩ : ∃ W1, W.alloc (.cells #[strW x] tE) = W1 := ⟨_, rfl⟩
  have hc1 : Chg [] W W1 := by rw [← hW1]; exact Chg.alloc _ _ _
  have hbuild : (Instr.buildSlice tS 1 #[(0, strW x)]).run P W = .ok (.slice (some ⟨W.heap.size, 0, none⟩) 1 1) W1 := by
    obtain ⟨z, hz, hzc⟩ := hokE.zeroValue W
    have hs := hokE.sizeOf W
    have hz1 : z.cells = #[.string ⟨#[]⟩] := by apply Array.ext'; rw [hzc]
    unfold Instr.buildSlice
    simp only [Sem.run_bind, run_underlying hkS, Result.andThen_ok, hs, hz, Sem.run_pure]
    simp [hz, hz1, Value.cells, strW, ← hW1, Sem.run_bind, go_sem]
  have hs1 : Sim F β s a W1 := h.world hc1
  have hown1 : W1.ownsRow 0 tE 1 (β.sv d) rows.length xs := ownK_keep1 hown hc1
  obtain ⟨inf, z, i1, i2, i3, i4, i5⟩ := hokE.info
  have hzs : z.cells.size = inf.size := by rw [i2, ← hokE.zlen, ← i5]; simp
  have hnew : W1.heap[W.heap.size]? = some (.cells #[strW x] tE (0, 0)) := by rw [← hW1]; exact heap_alloc_new W _
  have hsrc : Src P 1 tS (.slice (some ⟨W.heap.size, 0, none⟩) 1 1) 1 [strW x] W1 := Src.ofSlice W1 hkS ⟨W.heap.size, 0, none⟩ 1 1 [strW x] (by simp)
    (fun j u hj => by rw [add_at, cell_of_row W1 _ _ _ _ _ hnew]; simpa using hj) (by simp [strW, Value.oneCell'])
  have e2 : inf.size = 1 := i2
  have e3 : inf.bytes = 16 := i3
  obtain ⟨v', W2, r1, r2, r3, _⟩ := append_own2 (P := P) W1 0 tS tS ty4 tE inf z hkS i1 i4 hzs (β.sv d) rows.length xs (by rw [e2]; exact hown1) (.slice (some ⟨W.heap.size, 0, none⟩) 1 1) 1 [strW x] (by rw [e2]; exact hsrc)
    (by unfold maxLen; omega) (by rw [e3]; omega) (Nat.zero_le _)
  rw [e2] at r2 r3
  have hs2 := hs1.grow (o := d) (items := [[.str x]]) hd (by simp) (by simp) (by intro r hr; rw [List.mem_singleton] at hr; subst hr; rfl) r3 (xs := xs ++ [strW x]) (by simpa using r2)
    (fun w hw => by rcases List.mem_append.1 hw with q | q; exact one1 w q; rw [List.mem_singleton] at q; subst q; rfl)
    (by rw [List.flatten_append]; exact (RepL.append (move_allL (fun b p c q1 q2 => ⟨q1, hc1.cell q2 (by simp)⟩) (fun r hr => by obtain ⟨o, _ | n⟩ := r; rfl; exact fun u hu => hu) (by rw [clean_flat k2]; simp) hrep) ⟨strW x, [], rfl, rfl, rfl⟩))
  have hbd : (β.sv d).ownBlock ≠ some (β.pb x9) := fun e => hne (h.objs.inj d x9 (β.pb x9) (by unfold blk; simp only [hd]; exact e) (by unfold blk; simp only [ho]))
  have hb9 : W2.heap[β.pb x9]? = some (.cells ([β.sv d] ++ rs).toArray tS (0, 0)) := by
    have q1 := hc1.heap g1 (by simp)
    exact (r3.block _ (lt_of_block q1) (Ne.symm hbd)).trans q1
  have ho2 : (up s.o d (some (.arr 1 tE (rows ++ [[.str x]])))) x9 = some (.box tS [.own d rows.length]) := by rw [up_other _ _ (Ne.symm hne)]; exact ho
  obtain ⟨W3, hW3⟩ : ∃ W3, W2.setRow (β.pb x9) ([v'] ++ rs).toArray = W3 := ⟨_, rfl⟩
  have hw3 : W3.heap[β.pb x9]? = some (.cells ([v'] ++ rs).toArray tS (0, 0)) := by rw [← hW3]; exact setRow_heap W2 _ _ _ _ _ hb9
  have hc3 : Chg [β.pb x9] W2 W3 := by rw [← hW3]; exact chg_setRow _ W2 _ _ (.inl (by simp))
  have hshape : ∃ ad cap, v' = .slice ad (rows.length + 1) cap := by
    rcases r2.2 with ⟨e, e0⟩ | ⟨g, cap, cur, e, _⟩
    · omega
    · exact ⟨_, _, e⟩
  have hrv : Rep (sit F ⟨β.pb, up β.sv d v'⟩ (up s.o d (some (.arr 1 tE (rows ++ [[.str x]])))) W2) (.own d (rows.length + 1)) v' := ⟨hshape, fun w hw => by
    have hw : svOf _ _ d _ = some w := hw
    unfold svOf at hw
    simp only [up_same, List.length_append, List.length_cons, List.length_nil, if_true, Option.some.injEq] at hw; exact hw⟩
  have one' : v'.oneCell' = true := by obtain ⟨ad, cap, e⟩ := hshape; rw [e]; rfl
  have hs3 := hs2.setBox (o := x9) (c' := [.own d (rows.length + 1)]) ho2 hc3 hw3 (by intro w hw; rw [List.mem_singleton] at hw; subst hw; exact one') ⟨v', [], rfl, hrv, rfl⟩
    (fun r hr => by
      have hr : r ∈ [(d, some (rows.length + 1))] := by simpa [V.refsL, V.refs] using hr
      rw [List.mem_singleton] at hr; subst hr
      exact ⟨1, tE, _, up_same _ _ _, by simp⟩)
  have hstore : (Instr.storeAt tS (.pointer (some ⟨β.pb x9, 0, none⟩)) v').run P W2 = .ok () W3 := by
    have hst := run_storeCells_at P (β.pb x9) 0 tS v'.cells.toList 0 ([β.sv d] ++ rs).toArray W2 hb9 (by obtain ⟨ad, cap, e⟩ := hshape; rw [e]; simp [Value.cells]) (by obtain ⟨ad, cap, e⟩ := hshape; rw [e]; simp [Value.cells, Value.oneCell'])
    have hsz := hokS.sizeOf W2
    have hvc : v'.cells = #[v'] := by obtain ⟨ad, cap, e⟩ := hshape; rw [e]; rfl
    simp only [Instr.storeAt, Instr.sureAddr, storeVar, Sem.run_bind, Sem.run_pure, Result.andThen_ok, hsz]
    rw [hvc] at hst ⊢
    simp only [Nat.add_zero] at hst
    rw [if_neg (by simp), ← hW3]
    have e : ([β.sv d] ++ rs).toArray.toList.take 0 ++ [v'] ++ ([β.sv d] ++ rs).toArray.toList.drop (0 + [v'].length) = [v'] ++ rs := by simp
    simp only [e] at hst
    simpa using hst
  have keep : KeepsOthers W W3 := by
    refine (KeepsOthers.of_chg_cells hc1 (by simp)).trans ((KeepsOthers.of_chg_cells r3.chg fun k hk => ?_).trans (KeepsOthers.of_chg_cells hc3 fun k hk => ?_))
    · have hk : (β.sv d).ownBlock = some k := by simpa [own] using hk
      rcases hown1.2 with ⟨e, _⟩ | ⟨g, cap, cur, e, _, hg, _⟩
      · rw [e] at hk; cases hk
      · rw [e] at hk; injection hk with hk; subst hk; exact ⟨_, _, _, hg⟩
    · rw [List.mem_singleton] at hk; subst hk; exact ⟨_, _, _, hb9⟩
  -- the run
  have step : ∀ {o : Oper} {rest : List Oper} {ops : Array Oper} {a1 : Act} {V1 V2 : World} {v : Value}, o.guard = none → (∀ c, o.op ≠ .defer c) → (execOp a1.eval o).run P V1 = .ok (.value v) V2 → wpListIn fc m P ops Q rest (a1.put o.dst v) V2 → wpListIn fc m P ops Q (o :: rest) a1 V1 :=
    fun {o rest ops a1 V1 V2 v} hg hdf hr hk => wpListIn_plain hg fun K hK => ⟨fun f _ => hfn f, by rw [Oper.semAt_plain fc a1.eval o hdf, hr, Oper.uponIn_value]; exact hK _ _ hk⟩
  have put1 : ∀ (a1 : Act) (i j : Nat) (v : Value), j ≠ i → (a1.put (some i) v).tmps.getD j undef = a1.tmps.getD j undef := fun a1 i j v hj => by simp [Act.put, Array.getElem?_setIfInBounds, Ne.symm hj]
  have put2 : ∀ (a1 : Act) (i : Nat) (v : Value), i < a1.tmps.size → (a1.put (some i) v).tmps.getD i undef = v := fun a1 i v hi => by simp [Act.put, Array.getElem?_setIfInBounds, hi]
  refine wpIn_region_lit ?_
  refine step (v := β.sv d) (V2 := W) rfl (by simp) ?_ ?_
  · show (do pure (Next.value (← Instr.loadAt tS (a0.tmps.getD x9 undef))) : Sem Next).run P W = _
    rw [h9]; simp only [Sem.run_bind, hload, Result.andThen_ok, Sem.run_pure]
  refine step (v := strW x) (V2 := W) rfl (by simp) ?_ ?_
  · show Result.ok (Next.value ((a0.put (some d1) (β.sv d)).tmps.getD q undef)) W = _
    rw [put1 _ _ _ _ (Ne.symm n1), hq]
  refine step (v := .slice (some ⟨W.heap.size, 0, none⟩) 1 1) (V2 := W1) rfl (by simp) ?_ ?_
  · have q0 : ((a0.put (some d1) (β.sv d)).put (some d2) (strW x)).eval (.tmp d2) = strW x := put2 _ _ _ (by simpa [Act.put] using hb2)
    generalize ((a0.put (some d1) (β.sv d)).put (some d2) (strW x)) = aa at q0
    show (do pure (Next.value (← Instr.buildSlice tS 1 ((#[(0, Operand.tmp d2)] : Array (Nat × Operand)).map fun (i, y) => (i, aa.eval y)))) : Sem Next).run P W = _
    rw [show ((#[(0, Operand.tmp d2)] : Array (Nat × Operand)).map fun (i, y) => (i, aa.eval y)) = #[(0, strW x)] from by simp [q0]]
    simp only [Sem.run_bind, hbuild, Result.andThen_ok, Sem.run_pure]
  refine step (v := v') (V2 := W2) rfl (by simp) ?_ ?_
  · have q1 : ((((a0.put (some d1) (β.sv d)).put (some d2) (strW x)).put (some d3) (.slice (some ⟨W.heap.size, 0, none⟩) 1 1)).eval (.tmp d1)) = β.sv d := by
      show Array.getD _ _ _ = _
      rw [put1 _ _ _ _ (Ne.symm n3), put1 _ _ _ _ (Ne.symm n2), put2 _ _ _ hb1]
    have q2 : ((((a0.put (some d1) (β.sv d)).put (some d2) (strW x)).put (some d3) (.slice (some ⟨W.heap.size, 0, none⟩) 1 1)).eval (.tmp d3)) = .slice (some ⟨W.heap.size, 0, none⟩) 1 1 := put2 _ _ _ (by simpa [Act.put] using hb3)
    simp [execOp, resolve, invoke, builtin, q1, q2, r1, Result.andThen]
  refine wpListIn_plain rfl fun K hK => ⟨fun f _ => hfn f, ?_⟩
  rw [Oper.semAt_plain fc _ _ (by simp)]
  have q3 : (((((a0.put (some d1) (β.sv d)).put (some d2) (strW x)).put (some d3) (.slice (some ⟨W.heap.size, 0, none⟩) 1 1)).put (some d4) v').eval (.tmp x9)) = .pointer (some ⟨β.pb x9, 0, none⟩) := by
    show Array.getD _ _ _ = _
    rw [put1 _ _ _ _ (Ne.symm n7), put1 _ _ _ _ (Ne.symm n6), put1 _ _ _ _ (Ne.symm n5), put1 _ _ _ _ (Ne.symm n4), h9]
  have q4 : (((((a0.put (some d1) (β.sv d)).put (some d2) (strW x)).put (some d3) (.slice (some ⟨W.heap.size, 0, none⟩) 1 1)).put (some d4) v').eval (.tmp d4)) = v' := put2 _ _ _ (by simpa [Act.put] using hb4)
  unfold execOp
  simp only [q3, q4, Sem.run_bind, hstore, Result.andThen_ok, Sem.run_pure, Oper.uponIn_skip, Oper.uponIn_value]
  refine hK _ _ (wpListIn_nil ?_)
  exact hQ _ W3 ⟨β.pb, up β.sv d v'⟩ keep hs3 (fun o => rfl)
def KpF (line : List UInt8) (pf : FuncId) (sA fA : Nat × Nat) (W W' : World) : Prop :=
  (W.cell? ⟨sA.1, sA.2, none⟩ = some (strW line) → W'.cell? ⟨sA.1, sA.2, none⟩ = some (strW line)) ∧ (W.cell? ⟨fA.1, fA.2, none⟩ = some (.func (.func pf) #[] #[]) → W'.cell? ⟨fA.1, fA.2, none⟩ = some (.func (.func pf) #[] #[])) ∧ (GcW W → GcW W')
theorem gc_put {w W : World} {l : Nat} {o o' : Obj} (h : GcW W) (ho : W.heap[l]? = some o) (hc : o.isCells = false) : GcW (W.putObj l o') := by
  have hcell : ∀ b p c, W.cell? ⟨b, p, none⟩ = some c → b ≠ l := fun b p c q e => by
    subst e
    unfold World.cell? at q
    simp only [ho] at q
    cases o <;> first | (cases hc; done) | (simp at q; done)
  refine gc_keep h (fun b p c _ q => (World.cell?_of_block (a := ⟨b, p, none⟩) (World.putObj_heap_other (hcell b p c q))).trans q) ?_
  refine World.putObj_heap_other fun e => ?_
  obtain ⟨_, ⟨t, z, hz⟩, _⟩ := h
  rw [e, ho] at hz
  injection hz with hz
  subst hz
  cases hc
theorem KpF.put {line : List UInt8} {pf : FuncId} {sA fA : Nat × Nat} (W : World) (l : Nat) (o o' : Obj) (ho : W.heap[l]? = some o) (hc : o.isCells = false) : KpF line pf sA fA W (W.putObj l o') := by
  have hcell : ∀ b p c, W.cell? ⟨b, p, none⟩ = some c → (W.putObj l o').cell? ⟨b, p, none⟩ = some c := fun b p c q => by
    have : b ≠ l := fun e => by
      subst e
      unfold World.cell? at q
      simp only [ho] at q
      cases o <;> first | (cases hc; done) | (simp at q; done)
    exact (World.cell?_of_block (a := ⟨b, p, none⟩) (World.putObj_heap_other this)).trans q
  exact ⟨hcell _ _ _, hcell _ _ _, fun h => gc_put (w := W) h ho hc⟩
def txtR (l : List (List UInt8)) : List (List V) := l.map fun x => [.str x]
theorem VWp.collect {P : Program} {τ : TT} (hτ : TTOk P τ) {tS tE : TypeId} (hS : τ tS = some ⟨.slc tE, 1, 24, [Value.slice none 0 0], false⟩) (hE : τ tE = some ⟨.str, 1, 16, [Value.string ⟨#[]⟩], false⟩) {F : Env} {s : St} {Q : Exit → St → Prop} {k : Nat} (hF : F.n = k)
    {g p idA bid idB x9 q d1 d2 d3 d4 d : Nat} {ty0 ty1 ty2 ty3 ty4 ty5 : TypeId} {p0 p1 p2 p3 p4 p5 : String} {f0 f1 f2 f3 f4 f5 : Array Edge} (n N : Nat) (hn : 1 ≤ n) {gf pf : FuncId} {line : List UInt8} {ws : List (List UInt8)}
    (hg : s.t g = .fn (.func gf) [.rp [.str line] 0, .rp [.fn (.func pf) []] 0]) (eg : ∀ args w, (callFunc gf args).run P w = .ok (.enter gf args) w)
    (hgen : ∀ (W : World) (sA fA : Nat × Nat), W.cell? ⟨sA.1, sA.2, none⟩ = some (strW line) → W.cell? ⟨fA.1, fA.2, none⟩ = some (.func (.func pf) #[] #[]) → GcW W →
      SeqStopsK Fence.wide (n - 1) P gf #[.pointer (some ⟨sA.1, sA.2, none⟩), .pointer (some ⟨fA.1, fA.2, none⟩)] (fun x => #[strW x]) (KpF line pf sA fA) (fun xs => xs = ws) (fun pre => pre <+: ws) N W) (hN : N ≤ 100000000)
    (hx : s.t x9 = .ptr x9 0) (ho : s.o x9 = some (.box tS [.own d 0])) (hd : s.o d = some (.arr 1 tE [])) (hne : d ≠ x9)
    (hb : p < k ∧ q < k ∧ d1 < k ∧ d2 < k ∧ d3 < k ∧ d4 < k) (hpq : p ≠ x9 ∧ q ≠ x9) (n1 : d1 ≠ q) (n2 : d2 ≠ d1) (n3 : d3 ≠ d1) (n4 : d1 ≠ x9) (n5 : d2 ≠ x9) (n6 : d3 ≠ x9) (n7 : d4 ≠ x9)
    (hQ : Q .normal ⟨s.t, up (up s.o d (some (.arr 1 tE (txtR ws)))) x9 (some (.box tS [.own d ws.length]))⟩) :
    VWp P F (Code.rangeFunc (.tmp g) #[p] (.region idA [(⟨some q, .assign (.tmp p), ty0, p0, f0, none⟩ : Oper)].toArray false) (.block bid (.region idB [(⟨some d1, .load tS (.tmp x9), ty1, p1, f1, none⟩ : Oper), ⟨some d2, .move (.tmp q), ty2, p2, f2, none⟩, ⟨some d3, .buildSlice tS 1 #[(0, .tmp d2)], ty3, p3, f3, none⟩,
      ⟨some d4, .call { callee := .builtin .append, args := #[.tmp d1, .tmp d3], argTypes := #[tS, tS] }, ty4, p4, f4, none⟩, ⟨none, .store tS (.tmp x9) (.tmp d4), ty5, p5, f5, none⟩].toArray false))) Q s := fun β a W hs => by
  -- the iterator's value
  have hgr := hs.frame g
  rw [hg] at hgr
  obtain ⟨cs, hge, c1, cs1, rfl, ⟨b1, o1, rfl, _, m1, _⟩, c2, cs2, rfl, ⟨b2, o2, rfl, _, m2, _⟩, hcs⟩ := hgr
  have hcs : cs2 = [] := hcs
  subst hcs
  obtain ⟨_, v1, hv1, _, rv1⟩ := m1
  obtain ⟨_, v2, hv2, _, cs0, rv2, hcs0⟩ := m2
  have hcs0 : cs0 = [] := hcs0
  subst hcs0
  subst rv2
  have rv1 : v1 = strW line := rv1
  subst rv1
  have hge : a.eval (.tmp g) = .func (.func gf) #[] #[.pointer (some ⟨b1, o1 + 0, none⟩), .pointer (some ⟨b2, o2 + 0, none⟩)] := hge
  simp only [Nat.add_zero] at hge
  have hG := hs.objs.base.gcNow.2
  obtain ⟨hB, Ds, hD1, hD2, hD3⟩ := hs.defers
  have hDlt : ∀ D ∈ Ds, D < W.heap.size := fun D hD => (Array.getElem?_eq_some_iff.1 (hD3 D hD).2).1
  let sP : List (List UInt8) → St := fun pre => ⟨s.t, up (up s.o d (some (.arr 1 tE (txtR pre)))) x9 (some (.box tS [.own d pre.length]))⟩
  have hsP0 : sP [] = s := by
    show (⟨s.t, up (up s.o d (some (.arr 1 tE []))) x9 (some (.box tS [.own d 0]))⟩ : St) = s
    obtain ⟨st, so⟩ := s
    congr 1
    funext j
    by_cases e : j = x9
    · subst e; rw [up_same]; exact ho.symm
    · rw [up_other _ _ e]
      by_cases e2 : j = d
      · subst e2; rw [up_same]; exact hd.symm
      · rw [up_other _ _ e2]
  have hmapo : ∀ pre o es, (sP pre).o o = some (.map es) → s.o o = some (.map es) := fun pre o es e => by
    have e : up (up s.o d (some (.arr 1 tE (txtR pre)))) x9 (some (.box tS [.own d pre.length])) o = some (.map es) := e
    by_cases e1 : o = x9
    · subst e1; rw [up_same] at e; cases e
    · rw [up_other _ _ e1] at e
      by_cases e2 : o = d
      · subst e2; rw [up_same] at e; cases e
      · rw [up_other _ _ e2] at e; exact e
  let I : List (List UInt8) → World → Prop := fun pre W' => W.heap.size ≤ W'.heap.size ∧ (∀ D ∈ Ds, W'.heap[D]? = some (.deferred (some []))) ∧ ∃ β', (∀ o, β'.pb o = β.pb o) ∧ Sim F β' (sP pre) a W'
  have hw0 : F.w0.heap.size ≤ W.heap.size := hs.objs.chg.size
  have hsz := hs.size
  rw [hF] at hsz
  refine rangeF1 (g := .tmp g) (p := p) (a := a) (w := W) q n hn hge eg strW (hgen W (b1, o1) (b2, o2) hv1 hv2 hG) (fun {A B C} h k => ⟨fun q => k.1 (h.1 q), fun q => k.2.1 (h.2.1 q), fun q => k.2.2 (h.2.2 q)⟩)
    (fun W' l o o' _ hl hc _ => KpF.put W' l o o' hl hc) I (fun _ _ _ => False) ?_ (fun c p A B row h => h.elim) ⟨Nat.le_refl _, fun D hD => (hD3 D hD).2, β, fun _ => rfl, by rw [hsP0]; exact hs⟩ ?_ ?_ ?_ (fun D c pre W' _ _ h _ => h.elim)
  · -- the loop's own blocks
    rintro pre A B row ⟨h1, h2, β', h3, h4⟩ hgr hr
    have hD : ∀ D ∈ Ds, B.heap[D]? = some (.deferred (some [])) := fun D hD => (hgr.block D (lt_of_block (h2 D hD)) (fun e => by have := (hr D e.symm).1; have := hDlt D hD; omega)).trans (h2 D hD)
    refine ⟨Nat.le_trans h1 hgr.size, hD, β', h3, h4.turn hgr (fun r e => ?_) ⟨Nat.le_trans hB (Nat.le_trans h1 hgr.size), Ds, hD1, hD2, fun D q => ⟨(hD3 D q).1, hD D q⟩⟩⟩
    obtain ⟨k1, k2⟩ := hr r e
    refine ⟨by omega, k2, fun o es ho2 => ?_⟩
    have ho3 := hmapo pre o es ho2
    have := hs.objs.lt (o := o) (b := β.pb o) (by unfold blk; simp only [ho3])
    rw [h3 o]; omega
  · intro l x W' K hK
    refine wpIn_region_lit (wpListIn_plain rfl fun K' hK' => ⟨fun _ _ => trivial, ?_⟩)
    rw [Oper.semAt_plain _ _ _ (by simp)]
    show Oper.uponIn _ _ _ _ _ _ _ ((pure (Next.value (Array.getD (a.tmps.setIfInBounds p (strW x)) p undef)) : Sem Next).run P W')
    have e : Array.getD (a.tmps.setIfInBounds p (strW x)) p undef = strW x := by simp [Array.getElem?_setIfInBounds, hsz, hb.1]
    rw [e, Sem.run_pure, Oper.uponIn_value]
    exact hK' _ _ (wpListIn_nil hK)
  · rintro l pre x W' ⟨h1, h2, β', h3, h4⟩ hlt
    have ho2 : (sP pre).o x9 = some (.box tS [.own d (txtR pre).length]) := by
      show up _ _ _ _ = _
      rw [up_same]; simp [txtR]
    have hd2 : (sP pre).o d = some (.arr 1 tE (txtR pre)) := by
      show up _ _ _ _ = _
      rw [up_other _ _ hne, up_same]
    have hz0 : (actAt a p q (strW x)).tmps.size = k := by simp [actAt, hsz]
    refine wpIn_block (collect_in hτ hS hE (a0 := actAt a p q (strW x)) h4 (x := x) (fun _ => trivial) hx ho2 hd2 hne (by simp [txtR]; omega) ?_ ?_ (by rw [hz0]; exact hb.2.2.1) (by rw [hz0]; exact hb.2.2.2.1) (by rw [hz0]; exact hb.2.2.2.2.1) (by rw [hz0]; exact hb.2.2.2.2.2) n1 n2 n3 n4 n5 n6 n7 ?_)
    · simp [actAt, Array.getElem?_setIfInBounds, hpq.1, hpq.2]
    · simp [actAt, Array.getElem?_setIfInBounds, hsz, hb.2.1]
    · intro a' W2 β2 hk hs2 hpb
      have hsim : Sim F β2 (sP (pre ++ [x])) a W2 := by
        have e : (⟨(sP pre).t, up (up (sP pre).o d (some (.arr 1 tE (txtR pre ++ [[.str x]])))) x9 (some (.box tS [.own d ((txtR pre).length + 1)]))⟩ : St) = sP (pre ++ [x]) := by
          show (⟨s.t, _⟩ : St) = ⟨s.t, _⟩
          congr 1
          funext j
          by_cases e : j = x9
          · subst e; rw [up_same, up_same]; simp [txtR]
          · rw [up_other _ _ e, up_other _ _ e]
            by_cases e2 : j = d
            · subst e2; rw [up_same, up_same]; simp [txtR]
            · rw [up_other _ _ e2, up_other _ _ e2]
              show up _ _ _ _ = _
              rw [up_other _ _ e, up_other _ _ e2]
        rw [e] at hs2; exact hs2
      have hgr2 := hsim.frame g
      have hg2 : (sP (pre ++ [x])).t g = .fn (.func gf) [.rp [.str line] 0, .rp [.fn (.func pf) []] 0] := hg
      rw [hg2] at hgr2
      obtain ⟨cs, hge2, c1, cs1, rfl, ⟨b3, o3, rfl, _, m3, _⟩, c2, cs2, rfl, ⟨b4, o4, rfl, _, m4, _⟩, hcs⟩ := hgr2
      have hcs : cs2 = [] := hcs
      subst hcs
      have hge3 : a.tmps.getD g undef = .func (.func gf) #[] #[.pointer (some ⟨b1, o1, none⟩), .pointer (some ⟨b2, o2, none⟩)] := hge
      rw [hge3] at hge2
      simp only [Nat.add_zero, Value.func.injEq, Fn.func.injEq, true_and, List.toArray_inj, Array.mk.injEq, List.cons.injEq, Value.pointer.injEq, Option.some.injEq, Addr.mk.injEq, and_true] at hge2
      obtain ⟨⟨e1, e2⟩, e3, e4⟩ := hge2
      subst e1; subst e2; subst e3; subst e4
      obtain ⟨_, v3, hv3, _, rv3⟩ := m3
      obtain ⟨_, v4, hv4, _, cs0, rv4, hcs0⟩ := m4
      have hcs0 : cs0 = [] := hcs0
      subst hcs0
      subst rv4
      have rv3 : v3 = strW line := rv3
      subst rv3
      refine ⟨hk, ⟨fun _ => hv3, fun _ => hv4, fun _ => hsim.objs.base.gcNow.2⟩, Nat.le_trans h1 hk.size, fun D hD => hk.same D _ (h2 D hD) rfl, β2, fun o => (hpb o).trans (h3 o), hsim⟩
  · rintro D xs W' hD rfl ⟨h1, h2, β', h3, h4⟩ hK
    refine ⟨_, β', hQ, ⟨h4.objs, h4.closed, h4.frame, ⟨Nat.le_trans hB h1, D :: Ds, by rw [hD1]; rfl, List.nodup_cons.2 ⟨fun q => by have := hDlt D q; omega, hD2⟩, fun D' q => ?_⟩, h4.size⟩⟩
    rcases List.mem_cons.1 q with rfl | q
    · exact ⟨Nat.le_trans hB hD, hK⟩
    · exact ⟨(hD3 D' q).1, h2 D' q⟩
end Go.Proofs.YtedbbinlcdgkoaaGreatDoor
