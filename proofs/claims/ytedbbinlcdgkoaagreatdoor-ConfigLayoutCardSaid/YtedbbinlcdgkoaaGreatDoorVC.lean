import Derived.Deep.AppendSrc
import Derived.Test.YtedbbinlcdgkoaaGreatDoorVB
/- The value machine: a store into a box, a slice object that grows, what is read of an object. No program in sight. -/
namespace Go.Proofs.YtedbbinlcdgkoaaGreatDoor
open Go.RowKit
set_option linter.unusedVariables false
set_option linter.unusedSimpArgs false

theorem Chg.toL {L : List Nat} {w0 W W' : World} {b : Nat} (h : Chg L w0 W) (hW : Chg [b] W W') (hb : b ∈ L ∨ w0.heap.size ≤ b) : Chg L w0 W' :=
  h.then hW (fun i hi hlt => by rw [List.mem_singleton] at hi; subst hi; rcases hb with hb | hb; exact hb; omega)

theorem Sim.setBox {F : Env} {β : Bet} {s : St} {a : Act} {W W' : World} (h : Sim F β s a W) {o : Nat} {T : TypeId} {c c' : List V} (ho : s.o o = some (.box T c)) (hW : Chg [β.pb o] W W') {cs : List Value}
    {rest : List Value} (hcs : W'.heap[β.pb o]? = some (.cells (cs ++ rest).toArray T (0, 0))) (h1 : ∀ u ∈ cs, u.oneCell' = true) (hc : RepL (sit F β s.o W) c' cs) (hr : ∀ r ∈ V.refsL c', RefOk s.o r) :
    Sim F β ⟨s.t, up s.o o (some (.box T c'))⟩ a W' := by
  obtain ⟨hb, _, _, hold, _, _⟩ := h.objs.box o T c ho
  have hMut : ∀ b p, Mut F β (up s.o o (some (.box T c'))) b p → Mut F β s.o b p := by
    rintro b p (g | ⟨o', T', c'', g1, g2⟩ | ⟨o', k, E, rows, g1, g2, g3⟩)
    · exact .inl g
    · by_cases e : o' = o
      · subst e; exact .inr (.inl ⟨o', T, c, ho, g2⟩)
      · rw [up_other _ _ e] at g1; exact .inr (.inl ⟨o', T', c'', g1, g2⟩)
    · by_cases e : o' = o
      · subst e; rw [up_same] at g1; cases g1
      · rw [up_other _ _ e] at g1; exact .inr (.inr ⟨o', k, E, rows, g1, g2, g3⟩)
  have hC : ∀ b p c, ¬ Mut F β s.o b p → W.cell? ⟨b, p, none⟩ = some c → ¬ Mut F β (up s.o o (some (.box T c'))) b p ∧ W'.cell? ⟨b, p, none⟩ = some c := fun b p u g1 g2 =>
    ⟨fun g => g1 (hMut b p g), hW.cell g2 (by rw [List.mem_singleton]; intro e; exact g1 (.inr (.inl ⟨o, T, c, ho, e.symm⟩)))⟩
  have hR2 : ∀ r, RefOk s.o r → RefOk (up s.o o (some (.box T c'))) r := by
    rintro ⟨o', _ | n⟩ g
    · obtain ⟨y, g, gp⟩ := g
      by_cases e : o' = o
      · subst e; exact ⟨_, up_same _ _ _, rfl⟩
      · exact ⟨y, by rw [up_other _ _ e]; exact g, gp⟩
    · obtain ⟨k, E, rows, g, g2⟩ := g
      by_cases e : o' = o
      · subst e; rw [ho] at g; cases g
      · exact ⟨k, E, rows, by rw [up_other _ _ e]; exact g, g2⟩
  have hR : ∀ r, RefOk s.o r → SameRef (sit F β s.o W) (sit F β (up s.o o (some (.box T c'))) W') r := by
    rintro ⟨o', _ | n⟩ g
    · rfl
    · intro u hu
      have hu : svOf _ _ o' n = some u := hu
      show svOf _ _ o' n = some u
      obtain ⟨k, E, rows, g, g2⟩ := g
      have e : o' ≠ o := fun e => by rw [e, ho] at g; cases g
      unfold svOf at hu ⊢
      rw [up_other _ _ e] at hu; exact hu
  have hblk : ∀ o', blk β (up s.o o (some (.box T c'))) o' = blk β s.o o' := fun o' => by
    unfold blk
    by_cases e : o' = o
    · subst e; simp only [up_same, ho]
    · simp only [up_other _ _ e]
  have hkin : ∀ o', (up s.o o (some (.box T c'))) o' = none ∨ (s.o o' = none ∧ o' < 1000000) ∨ (s.o o' ≠ none ∧ Kin β β o' (s.o o') ((up s.o o (some (.box T c'))) o')) := fun o' => by
    by_cases e : o' = o
    · subst e; exact .inr (.inr ⟨by rw [ho]; simp, by rw [ho, up_same]; exact ⟨rfl, rfl⟩⟩)
    · rw [up_other _ _ e]
      cases hx : s.o o' with
      | none => exact .inl rfl
      | some x => exact .inr (.inr ⟨by simp, Kin.refl _ _ _⟩)
  refine ⟨⟨h.objs.base.step (h.objs.chg.toL hW hb) (fun o' b q => .inl ⟨o', by rw [← hblk]; exact q⟩) hkin hC, fun o' T' c'' g => ?_, fun o' k E rows g => ?_, fun o1 o2 b g1 g2 => h.objs.inj o1 o2 b (by rw [← hblk]; exact g1) (by rw [← hblk]; exact g2), fun o' es g => ?_⟩,
    ⟨fun i r hr => hR2 r (h.closed.t i r hr), fun o' T' c'' g r hr' => ?_⟩, fun i => move_all hC hR (h.closed.t i) (h.frame i), h.defers.chg hW (fun b hb q => by rw [List.mem_singleton] at hb; subst hb; exact h.objs.not_def (o := o) (by unfold blk; simp only [ho]) q), h.size⟩
  · by_cases e : o' = o
    · subst e
      simp only [up_same] at g; injection g with g; injection g with e1 e2; subst e1; subst e2
      exact ⟨hb, cs, rest, hcs, h1, move_allL hC hR hr hc⟩
    · simp only [up_other _ _ e] at g
      obtain ⟨g1, us, rs, g2, g3, g4⟩ := h.objs.box o' T' c'' g
      exact ⟨g1, us, rs, hW.heap g2 (by rw [List.mem_singleton]; intro q; exact e (h.objs.inj o' o (β.pb o) (by unfold blk; simp only [g, q]) (by unfold blk; simp only [ho]))), g3, move_allL hC hR (h.closed.o o' T' c'' g) g4⟩
  · by_cases e : o' = o
    · subst e; simp only [up_same] at g; cases g
    · simp only [up_other _ _ e] at g
      obtain ⟨g1, g2, g0, xs, g3, g4, g5⟩ := h.objs.arr o' k E rows g
      refine ⟨g1, g2, g0, xs, ownK_keep g3 hW (fun j hj => ?_), g4, move_allL hC hR (by rw [clean_flat g2]; simp) g5⟩
      rw [List.mem_singleton]; intro q; subst q
      exact e (h.objs.inj o' o (β.pb o) (by unfold blk; simp only [g]; simpa [own] using hj) (by unfold blk; simp only [ho]))
  · by_cases e : o' = o
    · subst e; simp only [up_same] at g; cases g
    · simp only [up_other _ _ e] at g
      exact (h.objs.map o' es g).keep rfl (fun x hx => hW.heap hx (by rw [List.mem_singleton]; intro q; exact e (h.objs.inj o' o (β.pb o) (by unfold blk; simp only [g, q]) (by unfold blk; simp only [ho])))) hC
  · by_cases e : o' = o
    · subst e
      simp only [up_same] at g; injection g with g; injection g with e1 e2; subst e1; subst e2
      exact hR2 r (hr r hr')
    · simp only [up_other _ _ e] at g
      exact hR2 r (h.closed.o o' T' c'' g r hr')

structure Grown (w w' : World) (v v' : Value) (nk : Nat) : Prop where
  os : w'.os = w.os
  tape : w'.tape = w.tape
  output : w'.output = w.output
  size : w.heap.size ≤ w'.heap.size
  block : ∀ j, j < w.heap.size → some j ≠ v.ownBlock → w'.heap[j]? = w.heap[j]?
  cells : ∀ b p c, v.ownBlock = some b → p < nk → w.cell? ⟨b, p, none⟩ = some c → w'.cell? ⟨b, p, none⟩ = some c
  where' : v'.ownBlock = v.ownBlock ∨ v'.ownBlock = some w.heap.size
theorem Grown.chg {w w' : World} {v v' : Value} {nk : Nat} (h : Grown w w' v v' nk) : Chg (own v) w w' :=
  ⟨h.os, h.tape, h.output, h.size, fun j hj hn => h.block j hj (fun e => hn (by simp [own, ← e]))⟩

theorem Sim.grow {F : Env} {β : Bet} {s : St} {a : Act} {W W' : World} (h : Sim F β s a W) {o k : Nat} {E : TypeId} {rows items : List (List V)} (ho : s.o o = some (.arr k E rows)) (hm : 0 < items.length)
    (hk : ∀ r ∈ items, r.length = k) (hcl : cleanR items) {v' : Value} (hg : Grown W W' (β.sv o) v' (rows.length * k)) {xs : List Value} (hown : W'.ownsRow 0 E k v' (rows ++ items).length xs)
    (h1 : ∀ u ∈ xs, u.oneCell' = true) (hx : RepL (sit F β s.o W) (rows ++ items).flatten xs) :
    Sim F ⟨β.pb, up β.sv o v'⟩ ⟨s.t, up s.o o (some (.arr k E (rows ++ items)))⟩ a W' := by
  obtain ⟨hk0, hcl0, hloc, ys, hown0, _, _⟩ := h.objs.arr o k E rows ho
  have hbo : ∀ b, (β.sv o).ownBlock = some b → blk β s.o o = some b := fun b hb => by unfold blk; simp only [ho]; exact hb
  have hMut : ∀ b p, b < W.heap.size → Mut F ⟨β.pb, up β.sv o v'⟩ (up s.o o (some (.arr k E (rows ++ items)))) b p → Mut F β s.o b p := by
    rintro b p hlt (g | ⟨o', T', c'', g1, g2⟩ | ⟨o', k', E', rows', g1, g2, g3⟩)
    · exact .inl g
    · by_cases e : o' = o
      · subst e; rw [up_same] at g1; cases g1
      · rw [up_other _ _ e] at g1; exact .inr (.inl ⟨o', T', c'', g1, g2⟩)
    · by_cases e : o' = o
      · subst e
        rw [up_same] at g1; injection g1 with g1; injection g1 with e1 e2 e3; subst e1; subst e2; subst e3
        simp only [up_same] at g2
        rcases hg.where' with q | q
        · refine .inr (.inr ⟨o', k, E, rows, ho, by rw [← q]; exact g2, ?_⟩)
          rcases g3 with g3 | ⟨g3, g4⟩ | g3
          · rw [List.length_append, Nat.add_mul] at g3; exact .inl (by omega)
          · rcases Nat.lt_or_ge p (rows.length * k) with z | z
            · rw [List.flatten_append, List.getElem?_append_left (by rw [flatten_len hk0]; exact z)] at g4
              exact .inr (.inl ⟨g3, g4⟩)
            · exact .inl z
          · exact .inr (.inr g3)
        · rw [q] at g2; injection g2 with g2; omega
      · rw [up_other _ _ e] at g1; simp only [up_other _ _ e] at g2
        exact .inr (.inr ⟨o', k', E', rows', g1, g2, g3⟩)
  have hC : ∀ b p c, ¬ Mut F β s.o b p → W.cell? ⟨b, p, none⟩ = some c → ¬ Mut F ⟨β.pb, up β.sv o v'⟩ (up s.o o (some (.arr k E (rows ++ items)))) b p ∧ W'.cell? ⟨b, p, none⟩ = some c := fun b p u g1 g2 => by
    have hlt := World.block_lt_of_cell? W _ g2
    simp only at hlt
    refine ⟨fun g => g1 (hMut b p hlt g), ?_⟩
    by_cases e : (β.sv o).ownBlock = some b
    · refine hg.cells b p u e ?_ g2
      rcases Nat.lt_or_ge p (rows.length * k) with q | q
      · exact q
      · exact absurd (.inr (.inr ⟨o, k, E, rows, ho, e, .inl q⟩)) g1
    · exact (World.cell?_of_block (a := ⟨b, p, none⟩) (hg.block b hlt (fun q => e q.symm))).trans g2
  have hR2 : ∀ r, RefOk s.o r → RefOk (up s.o o (some (.arr k E (rows ++ items)))) r := by
    rintro ⟨o', _ | n⟩ g
    · obtain ⟨y, g, gp⟩ := g
      have e : o' ≠ o := fun e => by rw [e, ho] at g; injection g with g; subst g; cases gp
      exact ⟨y, by rw [up_other _ _ e]; exact g, gp⟩
    · obtain ⟨k', E', rows', g, g2⟩ := g
      by_cases e : o' = o
      · subst e
        rw [ho] at g; injection g with g; injection g with e1 e2 e3; subst e1; subst e2; subst e3
        exact ⟨k, E, _, up_same _ _ _, by rw [List.length_append]; omega⟩
      · exact ⟨k', E', rows', by rw [up_other _ _ e]; exact g, g2⟩
  have hR : ∀ r, RefOk s.o r → SameRef (sit F β s.o W) (sit F ⟨β.pb, up β.sv o v'⟩ (up s.o o (some (.arr k E (rows ++ items)))) W') r := by
    rintro ⟨o', _ | n⟩ g
    · rfl
    · intro u hu
      have hu : svOf _ _ o' n = some u := hu
      show svOf _ _ o' n = some u
      obtain ⟨k', E', rows', g, g2⟩ := g
      unfold svOf at hu ⊢
      by_cases e : o' = o
      · subst e
        simp only [up_same] at hu
        rw [ho] at g; injection g with g; injection g with e1 e2 e3; subst e1; subst e2; subst e3
        split at hu
        · rename_i q; rw [List.length_append] at q; omega
        · cases hu
      · simp only [up_other _ _ e] at hu; exact hu
  have hfr : ∀ o', o' ≠ o → ∀ b, blk β s.o o' = some b → some b ≠ (β.sv o).ownBlock := fun o' e b hb q => e (h.objs.inj o' o b hb (hbo b q.symm))
  have hchg : Chg F.L F.w0 W' := by
    refine ⟨hg.os.trans h.objs.chg.os, hg.tape.trans h.objs.chg.tape, hg.output.trans h.objs.chg.output, Nat.le_trans h.objs.chg.size hg.size, fun j hj hn => ?_⟩
    rw [hg.block j (Nat.lt_of_lt_of_le hj h.objs.chg.size) (fun q => by rcases hloc j q.symm with z | z; exact hn z; omega)]
    exact h.objs.chg.block j hj hn
  have hblk : ∀ o' b, blk ⟨β.pb, up β.sv o v'⟩ (up s.o o (some (.arr k E (rows ++ items)))) o' = some b → (∃ o2, blk β s.o o2 = some b) ∨ W.heap.size ≤ b := fun o' b hb => by
    by_cases e : o' = o
    · subst e
      unfold blk at hb
      simp only [up_same] at hb
      rcases hg.where' with q | q
      · exact .inl ⟨o', hbo b (q.symm.trans hb)⟩
      · rw [q] at hb; injection hb with hb; exact .inr (by omega)
    · refine .inl ⟨o', ?_⟩
      unfold blk at hb ⊢
      simp only [up_other _ _ e] at hb
      exact hb
  have hkin : ∀ o', (up s.o o (some (.arr k E (rows ++ items)))) o' = none ∨ (s.o o' = none ∧ o' < 1000000) ∨ (s.o o' ≠ none ∧ Kin β ⟨β.pb, up β.sv o v'⟩ o' (s.o o') ((up s.o o (some (.arr k E (rows ++ items)))) o')) := fun o' => by
    by_cases e : o' = o
    · subst e
      refine .inr (.inr ⟨by rw [ho]; simp, ?_⟩)
      rw [ho, up_same]
      exact ⟨rfl, rfl, by rw [List.length_append]; omega, fun q => by rw [List.length_append] at q; omega⟩
    · rw [up_other _ _ e]
      cases hx : s.o o' with
      | none => exact .inl rfl
      | some x =>
        refine .inr (.inr ⟨by simp, ?_⟩)
        cases x with
        | box T c => exact ⟨rfl, rfl⟩
        | map es => rfl
        | arr k E r => exact ⟨rfl, rfl, Nat.le_refl _, fun _ => up_other _ _ e⟩
  refine ⟨⟨h.objs.base.step hchg hblk hkin hC, fun o' T' c'' g => ?_, fun o' k' E' rows' g => ?_, ?_, fun o' es g => ?_⟩, ⟨fun i r hr => hR2 r (h.closed.t i r hr), fun o' T' c'' g r hr' => ?_⟩, fun i => move_all hC hR (h.closed.t i) (h.frame i), h.defers.chg hg.chg (fun b hb q => h.objs.not_def (o := o) (hbo b (by simpa [own] using hb)) q), h.size⟩
  · by_cases e : o' = o
    · subst e; simp only [up_same] at g; cases g
    · simp only [up_other _ _ e] at g
      obtain ⟨g1, us, rs, g2, g3, g4⟩ := h.objs.box o' T' c'' g
      refine ⟨g1, us, rs, ?_, g3, move_allL hC hR (h.closed.o o' T' c'' g) g4⟩
      show W'.heap[β.pb o']? = _
      rw [hg.block _ (lt_of_block g2) (hfr o' e _ (by unfold blk; simp only [g]))]; exact g2
  · by_cases e : o' = o
    · subst e
      simp only [up_same] at g ⊢; injection g with g; injection g with e1 e2 e3; subst e1; subst e2; subst e3
      refine ⟨fun r hr => ?_, fun r hr => ?_, fun b hb => ?_, xs, hown, h1, move_allL hC hR ?_ hx⟩
      · rcases List.mem_append.1 hr with hr | hr; exact hk0 r hr; exact hk r hr
      · rcases List.mem_append.1 hr with hr | hr; exact hcl0 r hr; exact hcl r hr
      · rcases hg.where' with q | q
        · rw [q] at hb; exact hloc b hb
        · rw [q] at hb; injection hb with hb; have := h.objs.chg.size; exact .inr (by omega)
      · rw [List.flatten_append, refsL_append, clean_flat hcl0, clean_flat hcl]; simp
    · simp only [up_other _ _ e] at g ⊢
      obtain ⟨g1, g2, g0, zs, g3, g4, g5⟩ := h.objs.arr o' k' E' rows' g
      refine ⟨g1, g2, g0, zs, ?_, g4, move_allL hC hR (by rw [clean_flat g2]; simp) g5⟩
      exact ownK_keep g3 hg.chg (fun j hj q => hfr o' e j (by unfold blk; simp only [g]; simpa [own] using hj) (by simpa [own, eq_comm] using q))
  · have key : ∀ o' b, o' ≠ o → blk ⟨β.pb, up β.sv o v'⟩ (up s.o o (some (.arr k E (rows ++ items)))) o' = some b → blk β s.o o' = some b := fun o' b hne hb => by
      unfold blk at hb ⊢
      simp only [up_other _ _ hne] at hb
      exact hb
    have kd : ∀ b, blk ⟨β.pb, up β.sv o v'⟩ (up s.o o (some (.arr k E (rows ++ items)))) o = some b → blk β s.o o = some b ∨ b = W.heap.size := fun b hb => by
      unfold blk at hb
      simp only [up_same] at hb
      rcases hg.where' with q | q
      · exact .inl (hbo b (q.symm.trans hb))
      · rw [q] at hb; injection hb with hb; exact .inr hb.symm
    intro o1 o2 b g1 g2
    by_cases e : o1 = o <;> by_cases e' : o2 = o
    · rw [e, e']
    · subst e
      rcases kd b g1 with q | q
      · exact h.objs.inj _ _ b q (key o2 b e' g2)
      · have := h.objs.lt (key o2 b e' g2); omega
    · subst e'
      rcases kd b g2 with q | q
      · exact h.objs.inj _ _ b (key o1 b e g1) q
      · have := h.objs.lt (key o1 b e g1); omega
    · exact h.objs.inj o1 o2 b (key o1 b e g1) (key o2 b e' g2)
  · by_cases e : o' = o
    · subst e; simp only [up_same] at g; cases g
    · simp only [up_other _ _ e] at g
      exact (h.objs.map o' es g).keep rfl (fun x hx => (hg.block _ (lt_of_block hx) (hfr o' e _ (by unfold blk; simp only [g]))).trans hx) hC
  · by_cases e : o' = o
    · subst e; simp only [up_same] at g; cases g
    · simp only [up_other _ _ e] at g
      exact hR2 r (h.closed.o o' T' c'' g r hr')

theorem append_own2 {P : Program} (w : World) (base : Nat) (t tx ty e : TypeId) (i : TypeInfo) (z : Value) (ht : P.underlying t = some (.slice e)) (hi : P.info? e = some i) (hz : i.zero = some z) (hzs : z.cells.size = i.size)
    (v : Value) (n : Nat) (xs : List Value) (hown : w.ownsRow base e i.size v n xs) (x : Value) (m : Nat) (news : List Value) (hs : Src P i.size tx x m news w)
    (h63 : n + m ≤ maxLen) (hbytes : (n + m) * i.bytes ≤ 140737488355328) (hbase : base ≤ w.heap.size) :
    ∃ v' w', (Builtin.append_ #[t, tx] ty #[v, x]).run P w = .ok v' w' ∧ w'.ownsRow base e i.size v' (n + m) (xs ++ news) ∧ Grown w w' v v' (n * i.size) ∧ (m = 0 → v' = v ∧ w' = w) := by
  have hl := hs.newsLen
  have hlen : (xs ++ news).length = (n + m) * i.size := by rw [List.length_append, hown.1, hl, Nat.add_mul]
  have hsmall : n + m ≤ 9223372036854775807 := by simp only [maxLen] at h63; omega
  have grown : ∀ (old : Nat) (v : Value), old < n + m →
      (w.drew.alloc (.cells ((xs ++ news).toArray ++ Builtin.zeroCells z.cells (grownCap w (n + m) old e - (n + m))) e)).ownsRow base e i.size
        (.slice (some ⟨w.heap.size, 0, none⟩) (n + m) (grownCap w (n + m) old e)) (n + m) (xs ++ news) ∧
      Grown w (w.drew.alloc (.cells ((xs ++ news).toArray ++ Builtin.zeroCells z.cells (grownCap w (n + m) old e - (n + m))) e)) v (.slice (some ⟨w.heap.size, 0, none⟩) (n + m) (grownCap w (n + m) old e)) (n * i.size) := by
    intro old v ho
    have hge := grownCap_ge w (n + m) old e
    have hcm : grownCap w (n + m) old e ≤ maxLen := grownCap_le_maxLen w (n + m) old e h63
    refine ⟨⟨hlen, .inr ⟨w.heap.size, _, _, rfl, hbase, heap_alloc_new w.drew _, hge, hcm, ?_, ?_⟩⟩, ⟨rfl, rfl, rfl, by simp, fun k hk _ => Below.heap_alloc w.drew _ k hk, fun b p c _ _ hc => ?_, .inr rfl⟩⟩
    · simp only [Array.size_append, List.size_toArray, size_zeroCells, hzs, hlen, ← Nat.add_mul]
      congr 1
      omega
    · simp only [Array.toList_append]
      rw [← hlen]
      exact List.take_left
    · have hb := World.block_lt_of_cell? w _ hc
      exact (World.cell?_of_block (w := w) (Below.heap_alloc w.drew _ b hb)).trans hc
  rcases hown.2 with ⟨rfl, rfl⟩ | ⟨g, cap, cur, rfl, hbg, hg, hnc, hcm, hcs, htake⟩
  · have hx : xs = [] := List.eq_nil_of_length_eq_zero (by simpa using hown.1)
    subst hx
    by_cases hm : m = 0
    · subst hm
      have hn : news = [] := List.eq_nil_of_length_eq_zero (by simpa using hl)
      subst hn
      refine ⟨.slice none 0 0, w, ?_, World.ownsRow_nil w base e i.size, ⟨rfl, rfl, rfl, Nat.le_refl _, fun _ _ _ => rfl, fun _ _ _ _ _ h => h, .inl rfl⟩, fun _ => ⟨rfl, rfl⟩⟩
      rcases hs.kind with ⟨e', hk⟩ | hk <;> simp [Builtin.append_, run_underlying ht, run_underlying hk, sizeOf, typeInfo, hi, hs.len, hs.cells]
    · have hr := run_append_grow_src (P := P) w t tx ty e i z ht hi hz none 0 0 [] (run_firstCells_none _ _ _ _ _) x m news hs (by omega) (by omega) (by have hb := hbytes; simp only [Nat.zero_add] at hb ⊢; rw [nextslicecap_zero (by omega)]; omega)
      have hgr := grown 0 (.slice none 0 0) (by omega)
      exact ⟨_, _, hr, hgr.1, hgr.2, fun e => absurd e hm⟩
  · by_cases hroom : n + m ≤ cap
    · have hfit : n * i.size + news.length ≤ cur.size := by rw [hl, hcs, ← Nat.add_mul]; exact Nat.mul_le_mul_right _ hroom
      have hst := run_storeCells_at P g (n * i.size) e news 0 cur w hg (by simpa using hfit) hs.one
      simp only [Nat.add_zero] at hst
      have hr : (Builtin.append_ #[t, tx] ty #[.slice (some ⟨g, 0, none⟩) n cap, x]).run P w = .ok (.slice (some ⟨g, 0, none⟩) (n + m) cap) (w.setRow g (cur.toList.take (n * i.size) ++ news ++ cur.toList.drop (n * i.size + news.length)).toArray) := by
        rcases hs.kind with ⟨e', hk⟩ | hk <;> simp [Builtin.append_, run_underlying ht, run_underlying hk, sizeOf, typeInfo, hi, hs.len, hroom, hs.cells, Addr.add_lit, hst]
      refine ⟨_, _, hr, ⟨hlen, .inr ⟨g, cap, _, rfl, hbg, setRow_heap w g cur _ e _ hg, hroom, hcm, ?_, ?_⟩⟩, ⟨rfl, rfl, rfl, by simp, fun k _ hk => setRow_other w g k _ (fun e => hk (by simp [Value.ownBlock, e])), fun b p c hb hp hc => ?_, .inl rfl⟩, fun hm => ?_⟩
      · simp only [List.size_toArray, List.length_append, List.length_take, List.length_drop, Array.length_toList]
        omega
      · rw [htake, ← hlen]
        exact List.take_left
      · simp only [Value.ownBlock, Option.some.injEq] at hb; subst hb
        rw [cell_setRow_same w g p cur _ e _ hg]
        rw [cell_of_row w g p cur e (0, 0) hg] at hc
        rw [htake, List.append_assoc]
        have hp' : p < xs.length := by rw [hown.1]; exact hp
        rw [List.getElem?_toArray, List.getElem?_append_left hp', ← htake, List.getElem?_take, if_pos hp]
        simpa using hc
      · subst hm
        have hn : news = [] := List.eq_nil_of_length_eq_zero (by simpa using hl)
        subst hn
        refine ⟨rfl, ?_⟩
        simp only [List.append_nil, List.length_nil, Nat.add_zero, List.take_append_drop, Array.toArray_toList]
        exact setRow_self w g cur e (0, 0) hg
    · have holds : ∀ j u, xs[j]? = some u → w.cell? ((⟨g, 0, none⟩ : Addr).add j) = some u := hown.cells (g := g) rfl
      have hr := run_append_grow_src (P := P) w t tx ty e i z ht hi hz (some ⟨g, 0, none⟩) n cap xs (run_firstCells_some w.drew i.size n ⟨g, 0, none⟩ n cap xs hown.1 (by simpa using holds)) x m news hs (by omega) (by omega) (growslice_fits (by omega) hbytes)
      have hgr := grown cap (.slice (some ⟨g, 0, none⟩) n cap) (by omega)
      exact ⟨_, _, hr, hgr.1, hgr.2, fun e => absurd hnc (by omega)⟩

mutual
def view (os : Nat → Option Ob) : V → Option V
  | .agg l => (viewL os l).map .agg
  | .tup l => (viewL os l).map .tup
  | .fn f l => (viewL os l).map (.fn f)
  | .own o n => match os o with
    | some (.arr k _ rows) => if n = rows.length then (if prvB o rows = true then some (.sl k rows) else none) else none
    | _ => none
  | .ptr _ _ => none
  | .mp _ => none
  | .hs _ _ => none
  | .int k n => some (.int k n)
  | .bool b => some (.bool b)
  | .str l => some (.str l)
  | .sl k rows => some (.sl k rows)
  | .nil => some .nil
  | .rp r i => some (.rp r i)
  | .raw v => some (.raw v)
  | .any => some .any
def viewL (os : Nat → Option Ob) : List V → Option (List V)
  | [] => some []
  | x :: xs => match view os x, viewL os xs with
    | some y, some ys => some (y :: ys)
    | _, _ => none
end

theorem Objs.shape {F : Env} {β : Bet} {os : Nat → Option Ob} {W : World} (h : Objs F β os W) {o k : Nat} {E : TypeId} {rows : List (List V)} (ho : os o = some (.arr k E rows)) : ∃ a cap, β.sv o = .slice a rows.length cap ∧ True := by
  obtain ⟨hk, hcl, _, xs, hown, h1, hx⟩ := h.arr o k E rows ho
  rcases hown.2 with ⟨hn, h0⟩ | ⟨g, cap, cur, hv, _⟩
  · exact ⟨none, 0, by rw [hn, h0], trivial⟩
  · exact ⟨_, _, hv, trivial⟩
theorem Objs.lie {F : Env} {β : Bet} {os : Nat → Option Ob} {W : World} (h : Objs F β os W) {o k : Nat} {E : TypeId} {rows : List (List V)} (ho : os o = some (.arr k E rows)) (hs : prvB o rows = true) : Rep (sit F β os W) (.sl k rows) (β.sv o) := by
  obtain ⟨hk, hcl, _, xs, hown, h1, hx⟩ := h.arr o k E rows ho
  have hfl := flatten_len hk
  rcases hown.2 with ⟨hn, h0⟩ | ⟨g, cap, cur, hv, hbg, hg, hnc, hcm, hcs, htake⟩
  · have hr : rows = [] := List.eq_nil_of_length_eq_zero h0
    exact ⟨none, 0, by rw [hn, h0], by omega, by simp [maxLen], fun _ => hr, hk, hcl, fun x hx => by cases hx⟩
  · refine ⟨some ⟨g, 0, none⟩, cap, hv, hnc, hcm, (fun e => by cases e), hk, hcl, fun x hx' => ?_⟩
    injection hx' with hx'; subst hx'
    refine ⟨fun _ => rfl, AtR.flat.2 (AtL.of_get fun i hi => ⟨?_, ?_⟩)⟩
    · rintro (q | ⟨o', T, c, q1, q2⟩ | ⟨o', k', E', rows', q1, q2, q3⟩)
      · exact h.base.dis o g _ (by unfold blk; simp only [ho, hv]; rfl) q
      · have := h.inj o' o g (by unfold blk; simp only [q1, q2]) (by unfold blk; simp only [ho, hv]; rfl)
        subst this; rw [ho] at q1; cases q1
      · have := h.inj o' o g (by unfold blk; simp only [q1, q2]) (by unfold blk; simp only [ho, hv]; rfl)
        subst this
        rw [ho] at q1; injection q1 with q1; injection q1 with e1 e2 e3; subst e1; subst e2; subst e3
        rw [hfl] at hi
        rcases q3 with q3 | ⟨q3, q4⟩ | q3
        · simp only at q3; omega
        · exact solid_ne hs q3 _ q4
        · rw [wrt_no hs] at q3; cases q3
    · obtain ⟨u, hu, hru⟩ := RepL.get hx i hi
      refine ⟨u, ?_, h1 u (List.mem_of_getElem? hu), hru⟩
      have := hown.cells (g := g) (by rw [hv]; rfl) i u hu
      rw [add_at] at this; exact this

mutual
theorem view_rep {F : Env} {β : Bet} {os : Nat → Option Ob} {W : World} (h : Objs F β os W) : ∀ (x y : V) (v : Value), view os x = some y → Rep (sit F β os W) x v → Rep (sit F β os W) y v ∧ y.refs = []
  | .agg l, y, v, hv, hr => by
    simp only [view, Option.map_eq_some_iff] at hv
    obtain ⟨m, h1, rfl⟩ := hv
    obtain ⟨cs, g1, g2, g3⟩ := hr
    obtain ⟨k1, k2⟩ := viewL_rep h l m cs h1 g3
    exact ⟨⟨cs, g1, g2, k1⟩, k2⟩
  | .tup l, y, v, hv, hr => by
    simp only [view, Option.map_eq_some_iff] at hv
    obtain ⟨m, h1, rfl⟩ := hv
    obtain ⟨cs, g1, g3⟩ := hr
    obtain ⟨k1, k2⟩ := viewL_rep h l m cs h1 g3
    exact ⟨⟨cs, g1, k1⟩, k2⟩
  | .fn f l, y, v, hv, hr => by
    simp only [view, Option.map_eq_some_iff] at hv
    obtain ⟨m, h1, rfl⟩ := hv
    obtain ⟨cs, g1, g3⟩ := hr
    obtain ⟨k1, k2⟩ := viewL_rep h l m cs h1 g3
    exact ⟨⟨cs, g1, k1⟩, k2⟩
  | .own o n, y, v, hv, hr => by
    simp only [view] at hv
    split at hv
    · rename_i k E rows ho
      split at hv
      · rename_i hn
        split at hv
        · rename_i hs
          injection hv with hv; subst hv
          have : v = β.sv o := hr.2 (β.sv o) (by show svOf _ _ o n = _; unfold svOf; simp only [ho, hn, if_true])
          subst this
          exact ⟨h.lie ho hs, rfl⟩
        · cases hv
      · cases hv
    · cases hv
  | .ptr _ _, y, v, hv, hr => by simp [view] at hv
  | .mp _, y, v, hv, hr => by simp [view] at hv
  | .hs _ _, y, v, hv, hr => by simp [view] at hv
  | .int _ _, y, v, hv, hr => by simp only [view, Option.some.injEq] at hv; subst hv; exact ⟨hr, rfl⟩
  | .bool _, y, v, hv, hr => by simp only [view, Option.some.injEq] at hv; subst hv; exact ⟨hr, rfl⟩
  | .str _, y, v, hv, hr => by simp only [view, Option.some.injEq] at hv; subst hv; exact ⟨hr, rfl⟩
  | .sl _ _, y, v, hv, hr => by simp only [view, Option.some.injEq] at hv; subst hv; exact ⟨hr, rfl⟩
  | .nil, y, v, hv, hr => by simp only [view, Option.some.injEq] at hv; subst hv; exact ⟨hr, rfl⟩
  | .rp _ _, y, v, hv, hr => by simp only [view, Option.some.injEq] at hv; subst hv; exact ⟨hr, rfl⟩
  | .raw _, y, v, hv, hr => by simp only [view, Option.some.injEq] at hv; subst hv; exact ⟨hr, rfl⟩
  | .any, y, v, hv, hr => by simp only [view, Option.some.injEq] at hv; subst hv; exact ⟨hr, rfl⟩
theorem viewL_rep {F : Env} {β : Bet} {os : Nat → Option Ob} {W : World} (h : Objs F β os W) : ∀ (x y : List V) (v : List Value), viewL os x = some y → RepL (sit F β os W) x v → RepL (sit F β os W) y v ∧ V.refsL y = []
  | [], y, v, hv, hr => by simp only [viewL, Option.some.injEq] at hv; subst hv; exact ⟨hr, rfl⟩
  | x :: xs, y, v, hv, hr => by
    simp only [viewL] at hv
    split at hv
    · rename_i y0 ys h1 h2
      injection hv with hv; subst hv
      obtain ⟨u, us, rfl, g1, g2⟩ := hr
      obtain ⟨k1, k2⟩ := view_rep h x y0 u h1 g1
      obtain ⟨k3, k4⟩ := viewL_rep h xs ys us h2 g2
      exact ⟨⟨u, us, rfl, k1, k3⟩, by rw [V.refsL, k2, k4]; rfl⟩
    · cases hv
end
end Go.Proofs.YtedbbinlcdgkoaaGreatDoor
