import Derived.Test.YtldkmclfhjcicaaDoorVN
/- The value machine: what is known may be told more loosely. No program in sight. -/
namespace Go.Proofs.YtldkmclfhjcicaaDoor
open Go.RowKit
set_option linter.unusedVariables false
section
variable {P : Program} {τ : TT} {F : Env} {s : St} {Q : Exit → St → Prop}
/-- the cells of a box, told more loosely -/
theorem VWp.leB {c : Code} (o : Nat) (T : TypeId) (cs cs' : List V) (ho : s.o o = some (.box T cs)) (hle : LeL cs cs') (hr : V.refsL cs' = []) (h : VWp P F c Q ⟨s.t, up s.o o (some (.box T cs'))⟩) : VWp P F c Q s := fun β a W hs => by
  obtain ⟨hb, us, g1, g2, g3⟩ := hs.objs.box o T cs ho
  exact h β a W (hs.setBox (W' := W) ho (Chg.refl _ _) g1 g2 (hle.rep g3) (fun r hx => by rw [hr] at hx; cases hx))
/-- a temporary, told more loosely -/
theorem VWp.leT {c : Code} (x : Nat) (v : V) (hle : LeV (s.t x) v) (hr : v.refs = []) (h : VWp P F c Q ⟨up s.t x v, s.o⟩) : VWp P F c Q s := fun β a W hs => by
  refine h β a W ⟨hs.objs, ⟨fun i r hx => ?_, hs.closed.o⟩, fun i => ?_, hs.defers, hs.size⟩
  · by_cases e : i = x
    · subst e; simp only [up_same] at hx; rw [hr] at hx; cases hx
    · simp only [up_other _ _ e] at hx; exact hs.closed.t i r hx
  · by_cases e : i = x
    · subst e; simp only [up_same]; exact hle _ _ (hs.frame i)
    · simp only [up_other _ _ e]; exact hs.frame i
/-- arguments told more loosely -/
theorem Spec.le {f : FuncId} {args args' : List V} {r : V} (h : Spec P f args' r) (hl : LeL args args') : Spec P f args r := ⟨h.ent, h.rc, fun M w vs hM hv => h.run M w vs hM (hl.rep hv)⟩
/-- a result told more loosely -/
theorem Spec.leR {f : FuncId} {args : List V} {r r' : V} (h : Spec P f args r) (hl : LeV r r') (hr : r'.refs = []) : Spec P f args r' := ⟨h.ent, hr, fun M w vs hM hv => (h.run M w vs hM hv).mono fun e w' ⟨v, h1, h2, h3⟩ => ⟨v, h1, h2, hl _ _ h3⟩⟩
end
theorem LeL.refl : ∀ l : List V, LeL l l
  | [] => trivial
  | x :: l => ⟨LeV.refl x, LeL.refl l⟩
theorem toBytes_nil : toBytes? [] = some [] := rfl
theorem toBytes_cons (n : Int) (rs : List (List V)) : toBytes? ([.int .u8 n] :: rs) = (match toBytes? rs with | some l => some (UInt8.ofNat n.toNat :: l) | none => none) := rfl
end Go.Proofs.YtldkmclfhjcicaaDoor
