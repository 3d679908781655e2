import Derived.Test.YtnaljgmcpagbbaaGreatDoorArgS
/- Arguments that are statements, as the value machine takes them. -/
namespace Go.Proofs.YtnaljgmcpagbbaaGreatDoor
open Go.RowKit
set_option linter.unusedVariables false
section
open Go.ChangeShapes Go.WideShapes Go.Deep
variable {H : Type} {enc : TypeId × Value → H} {W : World} {base : Nat} {spare : Nat → Bool} {held : Bool}
theorem prm_rd {fuel : Nat} {cs : List Value} {x : DataW H × List MemPlace} (h : DataW.trod enc Tryz.prog W base spare held fuel 37 cs = some x) : ∃ p : PrmJ, RepL (S0 (fun _ _ => False) W) (prmC p) cs ∧ ∀ u ∈ cs, u.oneCell' = true := by
  obtain ⟨hl, m, hf⟩ := trod_cells Tryz.underlying37 (by kernel_rfl) (by kernel_rfl) h
  obtain ⟨v0, y0, c0, t0⟩ := hf 0 _ rfl
  obtain ⟨v1, y1, c1, t1⟩ := hf 1 _ rfl
  obtain ⟨v2, y2, c2, t2⟩ := hf 2 _ rfl
  obtain ⟨n0, e0, _, g0⟩ := DataW.trod_string Tryz.underlying9 t0
  obtain ⟨n1, e1, _, g1⟩ := DataW.trod_string Tryz.underlying9 t1
  obtain ⟨u2, l2, e2, o2, _, r2⟩ := strs_cs t2
  cases e0; cases e1; cases e2
  have hl : cs.length = 3 := hl
  match cs, hl with
  | [_, _, _], _ =>
    simp only [List.getElem?_cons_zero, List.getElem?_cons_succ, Option.some.injEq] at c0 c1 c2
    subst c0; subst c1; subst c2
    exact ⟨⟨n0.data.toList, n1.data.toList, l2⟩, ⟨_, _, rfl, by cases n0; rfl, _, _, rfl, by cases n1; rfl, _, _, rfl, r2, rfl⟩, fun u hu => by
      simp only [List.mem_cons, List.not_mem_nil, or_false] at hu
      rcases hu with rfl | rfl | rfl
      · rfl
      · rfl
      · exact o2⟩
theorem prms_cs {fuel : Nat} {cs : List Value} {y : DataW H × List MemPlace} (h : DataW.trod enc Tryz.prog W base spare held fuel 32 cs = some y) : ∃ (v : Value) (l : List PrmJ), cs = [v] ∧ v.oneCell' = true ∧ l.length ≤ 9223372036854775807 ∧ Rep (S0 (fun _ _ => False) W) (prmsV l) v :=
  slice_arg prmC (k := 3) (by decide) Tryz.underlying32 (by kernel_rfl) (fun _ => rfl) (fun _ => rfl) (fun _ _ _ h => prm_rd h) h
theorem stm_rd {fuel : Nat} {cs : List Value} {x : DataW H × List MemPlace} (h : DataW.trod enc Tryz.prog W base spare held fuel 34 cs = some x) : ∃ s : StmJ, RepL (S0 (fun _ _ => False) W) (stmC s) cs ∧ ∀ u ∈ cs, u.oneCell' = true := by
  obtain ⟨hl, m, hf⟩ := trod_cells Tryz.underlying34 (by kernel_rfl) (by kernel_rfl) h
  obtain ⟨v0, y0, c0, t0⟩ := hf 0 _ rfl
  obtain ⟨v1, y1, c1, t1⟩ := hf 1 _ rfl
  obtain ⟨v2, y2, c2, t2⟩ := hf 2 _ rfl
  obtain ⟨v3, y3, c3, t3⟩ := hf 3 _ rfl
  obtain ⟨v4, y4, c4, t4⟩ := hf 4 _ rfl
  obtain ⟨n0, e0, _, g0⟩ := DataW.trod_int Tryz.underlying3 t0
  obtain ⟨n1, e1, _, g1⟩ := DataW.trod_string Tryz.underlying9 t1
  obtain ⟨n2, e2, _, g2⟩ := DataW.trod_string Tryz.underlying9 t2
  obtain ⟨u3, l3, e3, o3, _, r3⟩ := prms_cs t3
  obtain ⟨u4, l4, e4, o4, _, r4⟩ := strs_cs t4
  cases e0; cases e1; cases e2; cases e3; cases e4
  have hl : cs.length = 5 := hl
  match cs, hl with
  | [_, _, _, _, _], _ =>
    simp only [List.getElem?_cons_zero, List.getElem?_cons_succ, Option.some.injEq] at c0 c1 c2 c3 c4
    subst c0; subst c1; subst c2; subst c3; subst c4
    exact ⟨⟨n0, n1.data.toList, n2.data.toList, l3, l4⟩, ⟨_, _, rfl, rfl, _, _, rfl, by cases n1; rfl, _, _, rfl, by cases n2; rfl, _, _, rfl, r3, _, _, rfl, r4, rfl⟩, fun u hu => by
      simp only [List.mem_cons, List.not_mem_nil, or_false] at hu
      rcases hu with rfl | rfl | rfl | rfl | rfl
      · rfl
      · rfl
      · rfl
      · exact o3
      · exact o4⟩
theorem stms_arg {a : Option Addr} {len cap : Nat} {d : DataW H} {p : List MemPlace} (hs : ∀ x, a = some x → x.spot = none)
    (h : DataW.Trod enc Tryz.prog W base spare held 22 (.slice a len cap) d p) : ∃ l : List StmJ, l.length ≤ 9223372036854775807 ∧ Rep (S0 (fun _ _ => False) W) (stmsV l) (.slice a len cap) := by
  obtain ⟨fuel, hf⟩ := h
  obtain ⟨v, l, e, _, h1, h2⟩ := slice_arg stmC (k := 5) (by decide) Tryz.underlying22 (by kernel_rfl) (fun _ => rfl) (fun _ => rfl) (fun _ _ _ h => stm_rd h) hf
  have e : [Value.slice a len cap] = [v] := e
  injection e with e _
  subst e
  exact ⟨l, h1, h2⟩
set_option maxRecDepth 100000 in
theorem stm_arg {r : Reach} {b0 : Nat} {v : Value} {d : DataW H} {p : List MemPlace} (hv : Value.okWide Tryz.prog W r b0 34 v) (h : DataW.Trod enc Tryz.prog W base spare held 34 v d p) :
    ∃ s : StmJ, Rep (S0 (fun _ _ => False) W) (stmV s) v := by
  obtain ⟨cs, rfl, _⟩ := okWide_struct Tryz.underlying34 hv
  obtain ⟨fuel, hf⟩ := h
  have hf : DataW.trod enc Tryz.prog W base spare held fuel 34 cs.toList = some _ := hf
  obtain ⟨s, h1, h2⟩ := stm_rd hf
  exact ⟨s, cs.toList, rfl, h2, h1⟩
end
end Go.Proofs.YtnaljgmcpagbbaaGreatDoor
