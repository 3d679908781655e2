/- More on slices of the call's own: a store at an index, an append of a slice that came in. -/
import Derived.Test.YtmmhokcdchhciaaApp
namespace Go.Proofs.Ytmmhokcdchhciaa
open Go.RowKit

theorem own_made0 (w : World) (e : TypeId) : (w.alloc (.cells #[] e)).ownsRow w.heap.size e 1 (.slice (some ⟨w.heap.size, 0, none⟩) 0 0) 0 [] :=
  ⟨rfl, .inr ⟨w.heap.size, 0, #[], rfl, Nat.le_refl _, heap_alloc_new w _, Nat.le_refl _, Nat.zero_le _, rfl, rfl⟩⟩

theorem own_set {w : World} {B e n : Nat} {v : Value} {xs : List Value} (h : w.ownsRow B e 1 v n xs) (i : Nat) (hi : i < n) :
    ∃ g cap u, v = .slice (some ⟨g, 0, none⟩) n cap ∧ n ≤ cap ∧ cap ≤ 9223372036854775807 ∧ B ≤ g ∧ g < w.heap.size ∧ w.cell? ⟨g, i, none⟩ = some u ∧ Hid (xs[i]? = some u) ∧ w.frozen? ⟨g, i, none⟩ = false ∧
      Hid (∀ y, (w.setCell ⟨g, i, none⟩ y).ownsRow B e 1 v n (xs.set i y) ∧ Chg [g] w (w.setCell ⟨g, i, none⟩ y)) := by
  rcases h.2 with ⟨_, hn⟩ | ⟨g, cap, cur, rfl, hb, hg, hnc, hcm, hcs, htake⟩
  · omega
  · have hlen := h.1
    have hu : xs[i]? = some (xs[i]'(by omega)) := List.getElem?_eq_getElem _
    refine ⟨g, cap, xs[i]'(by omega), rfl, hnc, hcm, hb, lt_of_block hg, ?_, hu, frozen_of_row _ _ _ _ _ hg, fun y => ⟨⟨by simpa using h.1, .inr ⟨g, cap, cur.setIfInBounds i y, rfl, hb, heap_setCell_same w g i cur e y hg, hnc, hcm, by simpa using hcs, ?_⟩⟩, Chg.setCell _ (.inl (by simp)) _⟩⟩
    · rw [cell_of_row w g i cur e (0, 0) hg, ← hu, ← htake, List.getElem?_take, if_pos (by omega)]
      simp
    · rw [← htake, Array.toList_setIfInBounds]
      refine List.ext_getElem? fun j => ?_
      simp only [List.getElem?_take, List.getElem?_set, List.length_take]
      split <;> split <;> simp_all <;> omega

/-- 'append(out, in..)' of a slice that reads as bytes and has an address -/
theorem appendR {P : Program} {ops : Array Oper} {rest : List Oper} {o : Oper} {a : Act} {Q : Exit → Act → World → Prop} {w : World} (hgd : o.guard = none) (s x : Operand) (t : TypeId)
    (ho : o.op = .call { callee := .builtin .append, args := #[s, x], argTypes := #[t, t] }) (B e bytes : Nat) (z : Value) (ht : P.underlying t = some (.slice e))
    (hi : (P.info? e).map (fun i => (i.zero, i.size, i.bytes)) = some (some z, 1, bytes)) (hz : z.cells.size = 1) (hby : bytes ≤ 1000) (ys : List UInt8) (m bb off cap : Nat) (hm : ys.length = m)
    (hy : Reads w (.slice (some ⟨bb, off, none⟩) m cap) ys) {v : Value} {n : Nat} {xs : List Value} (hown : w.ownsRow B e 1 v n xs) (hs : a.eval s = v) (hx : a.eval x = .slice (some ⟨bb, off, none⟩) m cap)
    (hn : n + m ≤ 1000000000) (hB : B ≤ w.heap.size)
    (h : ∀ v' w', w'.ownsRow B e 1 v' (n + m) (xs ++ ys.map eb) → Chg (own v) w w' → wpList P ops Q rest (a.put o.dst v') w') : wpList P ops Q (o :: rest) a w := by
  obtain ⟨i, h1, h2, h3, h4⟩ := info_parts hi
  obtain ⟨ad, c, hv, _, _, _, hc⟩ := hy
  cases hv
  refine wpList_append_own _ hgd s x t ho B e i z 1 bytes ht h1 h2 h3 h4 hz (by decide) v n xs hs hown ⟨bb, off, none⟩ _ cap (ys.map eb) hx (by simp) ?_ ?_ (by unfold maxLen; omega) ?_ hB ?_
  · intro j u hj
    have hadd : (⟨bb, off, none⟩ : Addr).add j = ⟨bb, off + j, none⟩ := by unfold Addr.add; split <;> simp_all
    rw [hadd]
    have hj2 : j < ys.length := by
      rcases Nat.lt_or_ge j ys.length with h | h
      · exact h
      · rw [List.getElem?_eq_none (by simpa using h)] at hj; cases hj
    rw [(hc _ rfl).2 j hj2]
    simpa [hj2] using hj
  · intro u hu
    obtain ⟨y, _, rfl⟩ := List.mem_map.1 hu
    rfl
  · have : (n + ys.length) * bytes ≤ 1000000000 * 1000 := Nat.mul_le_mul hn hby
    omega
  · intro v' w' ho' hg _
    exact h v' w' ho' ⟨hg.os, hg.tape, hg.output, hg.size, fun k hk hkn => hg.block k hk (fun e => hkn (by simp [own, ← e]))⟩

/-- 'append(out, news..)' of elements just built, the new block's number spelled otherwise -/
theorem appendN2 {P : Program} {ops : Array Oper} {rest : List Oper} {o : Oper} {a : Act} {Q : Exit → Act → World → Prop} {wr : World} (hgd : o.guard = none) (s x : Operand) (t : TypeId)
    (ho : o.op = .call { callee := .builtin .append, args := #[s, x], argTypes := #[t, t] }) (B e bytes : Nat) (z : Value) (ht : P.underlying t = some (.slice e))
    (hi : (P.info? e).map (fun i => (i.zero, i.size, i.bytes)) = some (some z, 1, bytes)) (hz : z.cells.size = 1) (hby : bytes ≤ 1000) (m : Nat) (news : List Value) (hm : news.length = m) (g0 : Nat) (hg0 : g0 = wr.heap.size)
    {v : Value} {n : Nat} {xs : List Value} (hown : wr.ownsRow B e 1 v n xs) (hs : a.eval s = v) (hx : a.eval x = .slice (some ⟨g0, 0, none⟩) m m) (hu : ∀ u ∈ news, u.oneCell' = true)
    (hn : n + m ≤ 1000000000) (hB : B ≤ wr.heap.size)
    (h : ∀ v' w', w'.ownsRow B e 1 v' (n + m) (xs ++ news) → Chg (own v) wr w' → wpList P ops Q rest (a.put o.dst v') w') : wpList P ops Q (o :: rest) a (wr.alloc (.cells news.toArray e)) := by
  subst hg0
  exact appendN hgd s x t ho B e bytes z ht hi hz hby m news hm hown hs hx hu hn hB h

end Go.Proofs.Ytmmhokcdchhciaa
