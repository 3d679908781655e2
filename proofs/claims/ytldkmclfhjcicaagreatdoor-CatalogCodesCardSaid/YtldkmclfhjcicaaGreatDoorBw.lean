import Derived.Outline
import Derived.Test.YtldkmclfhjcicaaGreatDoorVP
import Derived.Test.YtldkmclfhjcicaaGreatDoorBr
/- Calls of the catalog with a known answer; from a Spec to a Calls. -/
namespace Go.Proofs.YtldkmclfhjcicaaGreatDoor
open Go.RowKit
set_option linter.unusedVariables false
set_option linter.unusedSimpArgs false
theorem spec_true {P : Program} {f : FuncId} {args : List V} (h : Spec P f args (.bool true)) {vs : List Value} (w : World) (hv : RepL (S0 (fun _ _ => False) w) args vs) : Calls P f vs.toArray w fun e w' => e = .returned (.bool true) ∧ Chg [] w w' :=
  (h.run (fun _ _ => False) w vs (fun _ _ h => h.elim) hv).mono fun e w' ⟨v, h1, h2, h3⟩ => ⟨by cases h3; exact h1, h2⟩
theorem Name_at {s : Bs} {b : Bool} (h : nameOk s = b) : Spec Tryz.prog 20 [.str s] (.bool b) := h ▸ Name_spec s
theorem Gen_at {s : Bs} {n : Int} {t : Bs} {b : Bool} (h : genS s n = (t, b)) : Spec Tryz.prog 21 [.str s, .int .i64 n] (.tup [.str t, .bool b]) := by
  have := Generation_spec s n; rw [h] at this; exact this
theorem Add_at {c d : Cat} {e : Ent} {l : List Ent} {k : Int} (h : addC c e = (d, l, k)) : Spec Tryz.prog 23 [catV c, entV e] (.tup [catV d, entsV l, .int .i64 k]) := by
  have := Add_spec c e; rw [h] at this; exact this
theorem Define_at {c d : Cat} {s : Bs} {l k : Int} (h : defineC c s l = (d, k)) : Spec Tryz.prog 22 [catV c, .str s, .int .i64 l] (.tup [catV d, .int .i64 k]) := by
  have := Define_spec c s l; rw [h] at this; exact this
theorem Resolves_at {c : Cat} {s t : Bs} {rel f : Int} (h : resolveC c s rel = (t, f)) (hs : s.length ≤ 1000000) (hr : -9223372036854775808 ≤ rel) : Spec Tryz.prog 25 [catV c, .str s, .int .i64 rel, .str t, .int .i64 f] (.bool true) := by
  have := resolves_spec c s t rel f hs hr; rw [h] at this; simpa using this
theorem Check_at {c : Cat} {k : Int} (h : (if validC c then 0 else 1) = k) : Spec Tryz.prog 16 [catV c] (.int .i64 k) := h ▸ Check_spec c

theorem agg2 {a b a' b' : V} (h1 : LeV a a') (h2 : LeV b b') : LeV (.agg [a, b]) (.agg [a', b']) := LeV.agg ⟨h1, h2, trivial⟩
theorem lel1 {a a' : V} {l : List V} (h : LeV a a') : LeL (a :: l) (a' :: l) := ⟨h, LeL.refl _⟩
end Go.Proofs.YtldkmclfhjcicaaGreatDoor
