/- Slices of one-cell elements that are read, and appends to a slice of the call's own. -/
import Derived.Test.YtmmhokcdchhciaaFrameB
import Derived.Deep.AppendLies
namespace Go.Proofs.Ytmmhokcdchhciaa
open Go.RowKit

/-- The slice value v reads as the cells xs in w. -/
def ReadsV (w : World) (v : Value) (xs : List Value) : Prop :=
  ∃ a cap, v = .slice a xs.length cap ∧ xs.length ≤ cap ∧ cap ≤ maxLen ∧ (a = none → xs = []) ∧
    ∀ x, a = some x → x.spot = none ∧ ∀ i (h : i < xs.length), w.cell? ⟨x.block, x.off + i, none⟩ = some xs[i]

theorem ReadsV.keep {w w' : World} {v : Value} {xs : List Value} (h : ReadsV w v xs) {L : List Nat} (hc : Chg L w w') (hL : ∀ k ∈ L, w.heap.size ≤ k) : ReadsV w' v xs := by
  obtain ⟨a, cap, hv, h1, h2, h3, h4⟩ := h
  refine ⟨a, cap, hv, h1, h2, h3, fun x hx => ⟨(h4 x hx).1, fun i hi => ?_⟩⟩
  have hcell := (h4 x hx).2 i hi
  refine hc.cell hcell (fun e => ?_)
  have h5 := hL _ e
  have h6 := World.block_lt_of_cell? w _ hcell
  simp only at h5 h6
  omega

theorem ReadsV.of_own {w : World} {base e : Nat} {v : Value} {xs : List Value} (h : w.ownsRow base e 1 v xs.length xs) : ReadsV w v xs := by
  rcases h.2 with ⟨rfl, hn⟩ | ⟨g, cap, cur, rfl, _, hg, hnc, hcm, _, htake⟩
  · have : xs = [] := List.eq_nil_of_length_eq_zero hn
    subst this
    exact ⟨none, 0, rfl, Nat.le_refl _, Nat.zero_le _, (fun _ => rfl), (fun x hx => by cases hx)⟩
  · refine ⟨some ⟨g, 0, none⟩, cap, rfl, hnc, hcm, (fun h => by cases h), fun x hx => ?_⟩
    cases hx
    refine ⟨rfl, fun i hi => ?_⟩
    have h1 : (cur.toList.take (xs.length * 1))[i]? = some xs[i] := by rw [htake]; simp [hi]
    rw [List.getElem?_take] at h1
    rw [Nat.zero_add, cell_of_row w g i cur e (0, 0) hg]
    split at h1
    · simpa using h1
    · cases h1

/-- A number as an int's cell. -/
def en (d : Nat) : Value := .int .i64 (d : Int)

theorem ReadsV.parts {w : World} {v : Value} {l : List Nat} (h : ReadsV w v (l.map en)) {L : Nat} (hL : l.length = L) :
    (l = [] ∧ L = 0 ∧ ∃ a cap, v = .slice a 0 cap) ∨
    ∃ bb off cap, v = .slice (some ⟨bb, off, none⟩) L cap ∧ 1 ≤ L ∧ L ≤ cap ∧ cap ≤ 9223372036854775807 ∧ Hid (∀ i, i < L → w.cell? ⟨bb, off + i, none⟩ = some (.int .i64 (l.getD i 0 : Nat))) := by
  subst hL
  obtain ⟨a, cap, hv, h1, h2, h3, h4⟩ := h
  rw [List.length_map] at hv h1
  by_cases h0 : l = []
  · subst h0; exact .inl ⟨rfl, rfl, a, cap, hv⟩
  · cases a with
    | none => exact absurd (by simpa using h3 rfl) h0
    | some x =>
      obtain ⟨hs, hc⟩ := h4 x rfl
      obtain ⟨bb, off, spot⟩ := x
      simp only at hs; subst hs
      refine .inr ⟨bb, off, cap, hv, List.length_pos_iff.2 h0, h1, by unfold maxLen at h2; omega, fun i hi => ?_⟩
      rw [hc i (by simpa using hi), List.getD_eq_getElem?_getD, List.getElem?_eq_getElem hi]; simp [en]

/-- The block that a slice value begins in. -/
def own (v : Value) : List Nat := v.ownBlock.toList

theorem own_ge {w : World} {B e n : Nat} {v : Value} {xs : List Value} (h : w.ownsRow B e 1 v n xs) : ∀ k ∈ own v, B ≤ k := by
  intro k hk
  have := h.lt k (by simpa [own] using hk)
  exact this.1

theorem own_keep {w w' : World} {B e n : Nat} {v : Value} {xs : List Value} (h : w.ownsRow B e 1 v n xs) {L : List Nat} (hc : Chg L w w') (hn : ∀ k ∈ own v, k ∉ L) : w'.ownsRow B e 1 v n xs := by
  refine ⟨h.1, ?_⟩
  rcases h.2 with h2 | ⟨g, cap, cur, rfl, hb, hg, rest⟩
  · exact .inl h2
  · exact .inr ⟨g, cap, cur, rfl, hb, hc.heap hg (hn g (by simp [own, Value.ownBlock])), rest⟩

theorem own_base {w : World} {B B' e n : Nat} {v : Value} {xs : List Value} (h : w.ownsRow B e 1 v n xs) (hB : B' ≤ B) : w.ownsRow B' e 1 v n xs := by
  refine ⟨h.1, ?_⟩
  rcases h.2 with h2 | ⟨g, cap, cur, rfl, hb, rest⟩
  · exact .inl h2
  · exact .inr ⟨g, cap, cur, rfl, Nat.le_trans hB hb, rest⟩

theorem chg_own {w wr w' : World} {B e n : Nat} {v : Value} {xs : List Value} (hc : Chg [] w wr) (h : wr.ownsRow B e 1 v n xs) (hB : w.heap.size ≤ B) (hc' : Chg (own v) wr w') : Chg [] w w' :=
  hc.then hc' (fun i hi hlt => by have := own_ge h i hi; omega)

/-- 'append(out, news..)' of elements just built, out the call's own: it may grow. -/
theorem appendN {P : Program} {ops : Array Oper} {rest : List Oper} {o : Oper} {a : Act} {Q : Exit → Act → World → Prop} {wr : World} (hgd : o.guard = none) (s x : Operand) (t : TypeId)
    (ho : o.op = .call { callee := .builtin .append, args := #[s, x], argTypes := #[t, t] }) (B e bytes : Nat) (z : Value) (ht : P.underlying t = some (.slice e))
    (hi : (P.info? e).map (fun i => (i.zero, i.size, i.bytes)) = some (some z, 1, bytes)) (hz : z.cells.size = 1) (hby : bytes ≤ 1000) (m : Nat) (news : List Value) (hm : news.length = m)
    {v : Value} {n : Nat} {xs : List Value} (hown : wr.ownsRow B e 1 v n xs) (hs : a.eval s = v) (hx : a.eval x = .slice (some ⟨wr.heap.size, 0, none⟩) m m) (hu : ∀ u ∈ news, u.oneCell' = true)
    (hn : n + m ≤ 1000000000) (hB : B ≤ wr.heap.size)
    (h : ∀ v' w', w'.ownsRow B e 1 v' (n + m) (xs ++ news) → Chg (own v) wr w' → wpList P ops Q rest (a.put o.dst v') w') : wpList P ops Q (o :: rest) a (wr.alloc (.cells news.toArray e)) := by
  obtain ⟨i, h1, h2, h3, h4⟩ := info_parts hi
  refine wpList_append_own _ hgd s x t ho B e i z 1 bytes ht h1 h2 h3 h4 hz (by decide) v n xs hs (hown.alloc _) ⟨wr.heap.size, 0, none⟩ m m news hx (by omega) ?_ hu (by unfold maxLen; omega) ?_ (by simp; omega) ?_
  · intro j u hj
    have hadd : (⟨wr.heap.size, 0, none⟩ : Addr).add j = ⟨wr.heap.size, j, none⟩ := by unfold Addr.add; split <;> simp_all
    rw [hadd, cell_of_row _ _ j news.toArray e (0, 0) (heap_alloc_new wr _)]
    simpa using hj
  · have : (n + m) * bytes ≤ 1000000000 * 1000 := Nat.mul_le_mul hn hby
    omega
  · intro v' w' ho' hg _
    refine h v' w' ho' ⟨hg.os, hg.tape, hg.output, Nat.le_trans (by simp) hg.size, fun k hk hkn => ?_⟩
    exact (hg.block k (by simp; omega) (fun e => hkn (by simp [own, ← e]))).trans (Below.heap_alloc _ _ _ hk)

end Go.Proofs.Ytmmhokcdchhciaa
