import Derived.RangeFuncOwn
import Derived.Test.YtedbbinlcdgkoaaGreatDoorVW
/- The value machine: a slice object whose cells may be written; regions that only look. No program in sight. -/
namespace Go.Proofs.YtedbbinlcdgkoaaGreatDoor
open Go.RowKit
set_option linter.unusedVariables false
set_option linter.unusedSimpArgs false
theorem Sim.regrow {F : Env} {β : Bet} {s : St} {a : Act} {W W' : World} (h : Sim F β s a W) {o k : Nat} {E : TypeId} {rows rows' : List (List V)} (ho : s.o o = some (.arr k E rows)) (hw : wrt o = true) (hlen : rows.length < rows'.length)
    (hk : ∀ r ∈ rows', r.length = k) (hcl : cleanR rows') {v' : Value} (hW : Chg (own (β.sv o)) W W') (hwh : ∀ b, v'.ownBlock = some b → (β.sv o).ownBlock = some b ∨ W.heap.size ≤ b) {xs : List Value} (hown : W'.ownsRow 0 E k v' rows'.length xs)
    (h1 : ∀ u ∈ xs, u.oneCell' = true) (hx : RepL (sit F β s.o W) rows'.flatten xs) :
    Sim F ⟨β.pb, up β.sv o v'⟩ ⟨s.t, up s.o o (some (.arr k E rows'))⟩ a W' := by
  obtain ⟨hk0, hcl0, hloc, ys, hown0, _, _⟩ := h.objs.arr o k E rows ho
  have hbo : ∀ b, (β.sv o).ownBlock = some b → blk β s.o o = some b := fun b hb => by unfold blk; simp only [ho]; exact hb
  have hMut : ∀ b p, b < W.heap.size → Mut F ⟨β.pb, up β.sv o v'⟩ (up s.o o (some (.arr k E rows'))) b p → Mut F β s.o b p := by
    rintro b p hlt (g | ⟨o', T', c'', g1, g2⟩ | ⟨o', k', E', r', g1, g2, g3⟩)
    · exact .inl g
    · by_cases e : o' = o
      · subst e; rw [up_same] at g1; cases g1
      · rw [up_other _ _ e] at g1; exact .inr (.inl ⟨o', T', c'', g1, g2⟩)
    · by_cases e : o' = o
      · subst e
        rw [up_same] at g1; injection g1 with g1; injection g1 with e1 e2 e3; subst e1; subst e2; subst e3
        simp only [up_same] at g2
        rcases hwh b g2 with q | q
        · exact .inr (.inr ⟨o', k, E, rows, ho, q, .inr (.inr hw)⟩)
        · omega
      · rw [up_other _ _ e] at g1; simp only [up_other _ _ e] at g2
        exact .inr (.inr ⟨o', k', E', r', g1, g2, g3⟩)
  have hC : ∀ b p c, ¬ Mut F β s.o b p → W.cell? ⟨b, p, none⟩ = some c → ¬ Mut F ⟨β.pb, up β.sv o v'⟩ (up s.o o (some (.arr k E rows'))) b p ∧ W'.cell? ⟨b, p, none⟩ = some c := fun b p u g1 g2 => by
    have hlt := World.block_lt_of_cell? W _ g2
    simp only at hlt
    refine ⟨fun g => g1 (hMut b p hlt g), ?_⟩
    have e : (β.sv o).ownBlock ≠ some b := fun e => g1 (.inr (.inr ⟨o, k, E, rows, ho, e, .inr (.inr hw)⟩))
    exact hW.cell g2 (by intro q; exact e (by simpa [own] using q))
  have hR2 : ∀ r, RefOk s.o r → RefOk (up s.o o (some (.arr k E rows'))) r := by
    rintro ⟨o', _ | n⟩ g
    · obtain ⟨y, g, gp⟩ := g
      have e : o' ≠ o := fun e => by rw [e, ho] at g; injection g with g; subst g; cases gp
      exact ⟨y, by rw [up_other _ _ e]; exact g, gp⟩
    · obtain ⟨k', E', r', g, g2⟩ := g
      by_cases e : o' = o
      · subst e
        rw [ho] at g; injection g with g; injection g with e1 e2 e3; subst e1; subst e2; subst e3
        exact ⟨k, E, _, up_same _ _ _, by omega⟩
      · exact ⟨k', E', r', by rw [up_other _ _ e]; exact g, g2⟩
  have hR : ∀ r, RefOk s.o r → SameRef (sit F β s.o W) (sit F ⟨β.pb, up β.sv o v'⟩ (up s.o o (some (.arr k E rows'))) W') r := by
    rintro ⟨o', _ | n⟩ g
    · rfl
    · intro u hu
      have hu : svOf _ _ o' n = some u := hu
      show svOf _ _ o' n = some u
      obtain ⟨k', E', r', g, g2⟩ := g
      unfold svOf at hu ⊢
      by_cases e : o' = o
      · subst e
        simp only [up_same] at hu
        rw [ho] at g; injection g with g; injection g with e1 e2 e3; subst e1; subst e2; subst e3
        split at hu
        · rename_i q; omega
        · cases hu
      · simp only [up_other _ _ e] at hu; exact hu
  have hfr : ∀ o', o' ≠ o → ∀ b, blk β s.o o' = some b → b ∉ own (β.sv o) := fun o' e b hb q => e (h.objs.inj o' o b hb (hbo b (by simpa [own] using q)))
  have hblkE : ∀ o', o' ≠ o → blk ⟨β.pb, up β.sv o v'⟩ (up s.o o (some (.arr k E rows'))) o' = blk β s.o o' := fun o' e => by
    unfold blk; simp only [up_other _ _ e]
  have hblkO : blk ⟨β.pb, up β.sv o v'⟩ (up s.o o (some (.arr k E rows'))) o = v'.ownBlock := by unfold blk; simp only [up_same]
  have hblk : ∀ o' b, blk ⟨β.pb, up β.sv o v'⟩ (up s.o o (some (.arr k E rows'))) o' = some b → (∃ o2, blk β s.o o2 = some b) ∨ W.heap.size ≤ b := fun o' b hb => by
    by_cases e : o' = o
    · subst e
      rw [hblkO] at hb
      rcases hwh b hb with q | q
      · exact .inl ⟨o', hbo b q⟩
      · exact .inr q
    · rw [hblkE o' e] at hb; exact .inl ⟨o', hb⟩
  have hkin : ∀ o', (up s.o o (some (.arr k E rows'))) o' = none ∨ (s.o o' = none ∧ o' < 1000000) ∨ (s.o o' ≠ none ∧ Kin β ⟨β.pb, up β.sv o v'⟩ o' (s.o o') ((up s.o o (some (.arr k E rows'))) o')) := fun o' => by
    by_cases e : o' = o
    · subst e; exact .inr (.inr ⟨by rw [ho]; simp, by rw [ho, up_same]; exact ⟨rfl, rfl, by omega, fun q => by omega⟩⟩)
    · rw [up_other _ _ e]
      cases hx : s.o o' with
      | none => exact .inl rfl
      | some x => exact .inr (.inr ⟨by simp, by cases x <;> simp [Kin, up_other _ _ e]⟩)
  have hchg : Chg F.L F.w0 W' := h.objs.chg.then hW (fun i hi hlt => by rcases hloc i (by simpa [own] using hi) with z | z; exact z; omega)
  refine ⟨⟨h.objs.base.step hchg hblk hkin hC, fun o' T' c'' g => ?_, fun o' k' E' r' g => ?_, fun o1 o2 b g1 g2 => ?_, fun o' es g => ?_⟩,
    ⟨fun i r hr => hR2 r (h.closed.t i r hr), fun o' T' c'' g r hr' => ?_⟩, fun i => move_all hC hR (h.closed.t i) (h.frame i), h.defers.chg hW (fun b hb q => h.objs.not_def (o := o) (hbo b (by simpa [own] using hb)) q), h.size⟩
  · by_cases e : o' = o
    · subst e; simp only [up_same] at g; cases g
    · simp only [up_other _ _ e] at g
      obtain ⟨q1, us, rs, q2, q3, q4⟩ := h.objs.box o' T' c'' g
      exact ⟨q1, us, rs, hW.heap q2 (hfr o' e _ (by unfold blk; simp only [g])), q3, move_allL hC hR (h.closed.o o' T' c'' g) q4⟩
  · by_cases e : o' = o
    · subst e
      simp only [up_same] at g; injection g with g; injection g with e1 e2 e3; subst e1; subst e2; subst e3
      refine ⟨hk, hcl, fun b hb => ?_, xs, by simp only [up_same]; exact hown, h1, move_allL hC hR (by rw [clean_flat hcl]; simp) hx⟩
      simp only [up_same] at hb
      rcases hwh b hb with q | q
      · exact hloc b q
      · have := h.objs.chg.size; exact .inr (by omega)
    · simp only [up_other _ _ e] at g ⊢
      obtain ⟨q1, q2, q0, zs, q3, q4, q5⟩ := h.objs.arr o' k' E' r' g
      exact ⟨q1, q2, q0, zs, ownK_keep q3 hW (fun i hi hq => hfr o' e i (by unfold blk; simp only [g]; simpa [own] using hi) hq), q4, move_allL hC hR (by rw [clean_flat q2]; simp) q5⟩
  · by_cases e1 : o1 = o
    · by_cases e2 : o2 = o
      · rw [e1, e2]
      · subst e1
        rw [hblkO] at g1; rw [hblkE o2 e2] at g2
        rcases hwh b g1 with q | q
        · exact h.objs.inj _ _ b (hbo b q) g2
        · have := h.objs.lt g2; omega
    · by_cases e2 : o2 = o
      · subst e2
        rw [hblkO] at g2; rw [hblkE o1 e1] at g1
        rcases hwh b g2 with q | q
        · exact h.objs.inj _ _ b g1 (hbo b q)
        · have := h.objs.lt g1; omega
      · rw [hblkE o1 e1] at g1; rw [hblkE o2 e2] at g2; exact h.objs.inj _ _ b g1 g2
  · by_cases e : o' = o
    · subst e; simp only [up_same] at g; cases g
    · simp only [up_other _ _ e] at g
      exact (h.objs.map o' es g).keep rfl (fun x hx => hW.heap hx (hfr o' e _ (by unfold blk; simp only [g]))) hC
  · by_cases e : o' = o
    · subst e; simp only [up_same] at g; cases g
    · simp only [up_other _ _ e] at g
      exact hR2 r (h.closed.o o' T' c'' g r hr')
def calmT (s : St) : List Nat → List (Nat × V)
  | [] => []
  | k :: ks => (k, see s.o (seeP s.o) (s.t k)) :: calmT s ks
theorem calm_lk (s : St) : ∀ (ks : List Nat) (i : Nat), lk (calmT s ks) i = .any ∨ lk (calmT s ks) i = see s.o (seeP s.o) (s.t i)
  | [], i => .inl rfl
  | k :: ks, i => by
    unfold calmT lk
    by_cases e : i = k
    · subst e; rw [if_pos rfl]; exact .inr rfl
    · rw [if_neg e]; exact calm_lk s ks i
theorem VWp.calm {P : Program} {F : Env} {s : St} {Q : Exit → St → Prop} {c : Code} (ks : List Nat) (h : VWp P F c Q (St.of (calmT s ks) [])) : VWp P F c Q s := fun β a W hs => by
  have hsW : (sit F β (lko []) W).W = W := rfl
  have hsM : ∀ b p, (sit F β (lko []) W).M b p → F.M0 b p := by
    rintro b p (q | ⟨o, T, c, q, _⟩ | ⟨o, k, E, rows, q, _⟩)
    · exact q
    · cases q
    · cases q
  have hsee : ∀ i, Rep (sit F β (lko []) W) (see s.o (seeP s.o) (s.t i)) (a.tmps.getD i undef) ∧ (see s.o (seeP s.o) (s.t i)).refs = [] := fun i =>
    see_rep hsW hsM hs.objs (seeP_rep hsW hsM hs.objs) (seeP_refs s.o) _ _ (hs.frame i)
  refine h β a W ⟨hs.objs.less (fun o => .inl rfl), ⟨fun i r hr => ?_, fun o T c q => by cases q⟩, fun i => ?_, hs.defers, hs.size⟩
  · exfalso
    have hr : r ∈ (lk (calmT s ks) i).refs := hr
    rcases calm_lk s ks i with e | e
    · rw [e] at hr; cases hr
    · rw [e, (hsee i).2] at hr; cases hr
  · show Rep _ (lk (calmT s ks) i) _
    rcases calm_lk s ks i with e | e
    · rw [e]; trivial
    · rw [e]; exact (hsee i).1
theorem Sim.turn {F : Env} {β : Bet} {s : St} {a : Act} {W W' : World} {row : Option Nat} (h : Sim F β s a W) (hg : W.grownBy W' row)
    (hr : ∀ r, row = some r → F.w0.heap.size ≤ r ∧ (∃ o : Obj, W.heap[r]? = some o ∧ o.isCells = false) ∧ ∀ o es, s.o o = some (.map es) → β.pb o ≠ r) (hm : Marks F.B a.defers W') : Sim F β s a W' := by
  have hcells : ∀ {k : Nat} {c e f}, W.heap[k]? = some (.cells c e f) → W'.heap[k]? = some (.cells c e f) := fun {k c e f} hk => by
    refine (hg.block k (lt_of_block hk) (fun q => ?_)).trans hk
    obtain ⟨_, ⟨o, ho, hc⟩, _⟩ := hr k q.symm
    rw [hk] at ho; cases ho; cases hc
  have hcell : ∀ {b p : Nat} {c : Value}, W.cell? ⟨b, p, none⟩ = some c → W'.cell? ⟨b, p, none⟩ = some c := fun {b p c} hc => by
    have hlt := World.block_lt_of_cell? W _ hc
    simp only at hlt
    have : ∃ x e f, W.heap[b]? = some (.cells x e f) := by
      unfold World.cell? at hc
      cases hx : W.heap[b]? with
      | none => simp [hx] at hc
      | some o =>
        cases o with
        | cells x e f => exact ⟨_, _, _, rfl⟩
        | _ => simp [hx] at hc
    obtain ⟨x, e, f, hx⟩ := this
    exact (World.cell?_of_block (a := ⟨b, p, none⟩) ((hcells hx).trans hx.symm)).trans hc
  have hC : ∀ b p c, ¬ Mut F β s.o b p → W.cell? ⟨b, p, none⟩ = some c → ¬ Mut F β s.o b p ∧ W'.cell? ⟨b, p, none⟩ = some c := fun b p c h1 h2 => ⟨h1, hcell h2⟩
  have hR : ∀ r, RefOk s.o r → SameRef (sit F β s.o W) (sit F β s.o W') r := by
    rintro ⟨o, _ | n⟩ _
    · rfl
    · exact fun u hu => hu
  have hkin : ∀ o, s.o o = none ∨ (s.o o = none ∧ o < 1000000) ∨ (s.o o ≠ none ∧ Kin β β o (s.o o) (s.o o)) := fun o => by
    cases hx : s.o o with
    | none => exact .inl rfl
    | some x => exact .inr (.inr ⟨by simp, Kin.refl _ _ _⟩)
  have hchg : Chg F.L F.w0 W' := ⟨hg.os.trans h.objs.chg.os, hg.tape.trans h.objs.chg.tape, hg.output.trans h.objs.chg.output, Nat.le_trans h.objs.chg.size hg.size, fun j hj hn => by
    rw [hg.block j (Nat.lt_of_lt_of_le hj h.objs.chg.size) (fun q => by have := (hr j q.symm).1; omega)]; exact h.objs.chg.block j hj hn⟩
  refine ⟨⟨h.objs.base.step hchg (fun o b hb => .inl ⟨o, hb⟩) hkin hC, fun o T c ho => ?_, fun o k E rows ho => ?_, h.objs.inj, fun o es ho => ?_⟩, h.closed, fun i => move_all hC hR (h.closed.t i) (h.frame i), hm, h.size⟩
  · obtain ⟨h1, cs, rs, h2, h3, h4⟩ := h.objs.box o T c ho
    exact ⟨h1, cs, rs, hcells h2, h3, move_allL hC hR (h.closed.o o T c ho) h4⟩
  · obtain ⟨h1, h2, h0, xs, h3, h4, h5⟩ := h.objs.arr o k E rows ho
    refine ⟨h1, h2, h0, xs, ⟨h3.1, ?_⟩, h4, move_allL hC hR (by rw [clean_flat h2]; simp) h5⟩
    rcases h3.2 with e | ⟨g, cap, cur, e1, e2, e3, e4⟩
    · exact .inl e
    · exact .inr ⟨g, cap, cur, e1, e2, hcells e3, e4⟩
  · obtain ⟨h1, h2, vs, h3, h4⟩ := h.objs.map o es ho
    exact ⟨h1, h2, vs, (hg.block _ (lt_of_block h3) (fun q => (hr _ q.symm).2.2 o es ho rfl)).trans h3, RepL.mono (S' := sit F β s.o W') hC _ vs (by rw [h2]; simp) h4⟩
end Go.Proofs.YtedbbinlcdgkoaaGreatDoor
