/-
  It is proved that jobshoplaw19.ConfigChecks returns true whatever its arguments, as the statement ConfigChecksCardSaid says; the package-level variables that the row lists are tied to the program's text. There are no other conditions. The walk is in YtedbbinlcdgkoaaGreatDoorZY; the rest of this text is the shell of a proof, written out for these arguments.
-/
import Derived.Test.YtedbbinlcdgkoaaGreatDoorRows
import Derived.Test.YtedbbinlcdgkoaaGreatDoorCards
import Derived.Test.YtedbbinlcdgkoaaGreatDoorTie
import Derived.Test.YtedbbinlcdgkoaaGreatDoorCLaidM
import Derived.Test.YtedbbinlcdgkoaaGreatDoorArgM
import Derived.Test.YtedbbinlcdgkoaaGreatDoorZY
import Derived.SevenTiedAt
import Derived.WalkKit
import Derived.ProofKit
import Derived.OpenShut
import Derived.ShutString
import Derived.ChangeOld
import Derived.Below
namespace Go.Proofs.YtedbbinlcdgkoaaGreatDoor.configChecks
open Go.ChangeShapes Go.WideShapes Go.ChangeAt Go.RowKit
open Go.ChangeMaps (open_string shut_string)
set_option linter.unusedVariables false

theorem ownN : ownKnob Tryz.prog.godebug = none := by kernel_rfl
theorem laidOut : laidOutB Tryz.prog = true := by kernel_rfl

theorem walk (w : World) (hg : GcW w) (v0 : Value) (c0 : CfgT) (n0 : c0.us.length ≤ 9223372036854775807) (m0 : c0.ps.length ≤ 9223372036854775807) (r0 : Rep (S0 (fun _ _ => False) w) (.agg (cfgC c0)) v0) (v1 : Value) (st1 : Nat) (ps1 : List UInt8) (us1 : List UniT) (b1 : st1 < 256) (n1 : us1.length ≤ 9223372036854775807) (m1 : ps1.length ≤ 9223372036854775807) (r1 : Rep (S0 (fun _ _ => False) w) (.agg (seedC st1 ps1 us1)) v1) (a2 : Int) (w2 : (Lit.int .u8 a2).wf = true) (a3 : Int) (w3 : (Lit.int .i64 a3).wf = true) :
    Calls Tryz.prog 3 #[v0, v1, .int .u8 a2, .int .i64 a3] w fun e w' => e = .returned (.bool true) ∧ Below w.heap.size w w' := by
  have hr := w8 w2
  obtain ⟨v, rfl⟩ := Int.eq_ofNat_of_zero_le hr.1
  exact law_in (ConfigChecks_spec c0 st1 b1 ps1 us1 v (by omega) a3) hg ⟨_, _, rfl, r0, _, _, rfl, r1, _, _, rfl, rfl, _, _, rfl, rfl, rfl⟩

/-! ### THE ROW's STEP -/
set_option maxRecDepth 100000 in
theorem lifted (os : Os) (started : os.Started) (H : Type) (enc : TypeId × Value → H) :
    ReturnsInHanded {} Tryz.checked os 3 .any (fun w args => (Rows.configChecksSpec.pre enc Tryz.prog Tryz.f3 [] false w args ∧ laidMetH Tryz.prog laid2 w) ∧ sizedMet enc Tryz.prog Tryz.f3 (OpenSpec.ofChange Rows.configChecksSpec) false w args) (Rows.configChecksSpec.post enc Tryz.prog Tryz.f3 false true false false) := by
  refine change_and_shaped (C := Tryz.checked) (X := fun w _ => laidMetH Tryz.prog laid2 w) (fun _ _ _ hh h => h.of_heap hh) ownN started (by kernel_rfl) Tryz.func3
    (ChangeSpec.witness_shaped (enc := enc) (C := Tryz.checked) (os := os) (X := fun w _ => laidMetH Tryz.prog laid2 w) false (World.laidAll Tryz.prog os laid2) #[.agg #[.slice none 0 0, .int .i64 0, .slice none 0 0], .agg #[.int .u8 0, .slice none 0 0, .slice none 0 0], .int .u8 0, .int .i64 0] 8 (World.laidAll_os _ _ _) (World.shaped_of_ZipB (by kernel_rfl) (by kernel_rfl)) (by kernel_rfl) (by kernel_rfl) (by kernel_rfl) (door_met os _)) ?_
  intro W base args ds gs before hval0 hW hsh hlaid
  have hval : ∀ (j : Nat) t v, Tryz.f3.params[j]? = some t → args[j]? = some v → Value.okWide Tryz.prog W .any base t v := hval0
  have hW' := hW
  obtain ⟨p, q, hA0, hV, rfl, hfz, hnd⟩ := hW
  have hA : DataW.TrodAll enc Tryz.prog W 0 (fun _ => true) true Tryz.f3.params.toList args.toList ds p := hA0
  rw [Tryz.params3] at hA hval
  obtain ⟨v0, vs0, d0, ds0, p0, q0, hargs, rfl, rfl, h0, r0t⟩ := trodAll_cons hA
  obtain ⟨v1, vs1, d1, ds1, p1, q1, rfl, rfl, rfl, h1, r1t⟩ := trodAll_cons r0t
  obtain ⟨v2, vs2, d2, ds2, p2, q2, rfl, rfl, rfl, h2, r2t⟩ := trodAll_cons r1t
  obtain ⟨v3, vs3, d3, ds3, p3, q3, rfl, rfl, rfl, h3, r3t⟩ := trodAll_cons r2t
  obtain ⟨rfl, rfl, rfl⟩ := trodAll_nil r3t
  obtain rfl : args = #[v0, v1, v2, v3] := by cases args; simp_all
  obtain ⟨rfl, rfl⟩ := trodVars_none hV
  have k0 := h0
  have lt0 : ∀ x ∈ p0, x.block < W.heap.size := by obtain ⟨m, hm⟩ := k0; exact DataW.trod_lt m _ _ _ hm
  obtain ⟨c0, n0, m0, r0⟩ := cfg_arg (hval 0 25 v0 rfl rfl) h0
  have k1 := h1
  have lt1 : ∀ x ∈ p1, x.block < W.heap.size := by obtain ⟨m, hm⟩ := k1; exact DataW.trod_lt m _ _ _ hm
  obtain ⟨st1, ps1, us1, b1, n1, m1, r1⟩ := seed_arg (hval 1 28 v1 rfl rfl) h1
  obtain ⟨a2, rfl, rfl, rfl, w2⟩ := open_int Tryz.underlying5 (hval 2 5 v2 rfl rfl) h2
  obtain ⟨a3, rfl, rfl, rfl, w3⟩ := open_int Tryz.underlying3 (hval 3 3 v3 rfl rfl) h3
  clear hA0 hval0
  simp only [List.append_nil] at hW'
  refine (walk W (gc_shaped hsh hlaid) v0 c0 n0 m0 r0 v1 st1 ps1 us1 b1 n1 m1 r1 a2 w2 a3 w3).mono fun e W' ⟨he, bel⟩ => ?_
  subst he
  exact ⟨_, rfl, _, _, _, [], _, [], hW', trodAll_mk1 (shut_bool Tryz.underlying4 _), (trodAll_cons_mk (Below.trod laidOut (by kernel_rfl) (of_decide_eq_true (by kernel_rfl)) k0 bel lt0) (trodAll_cons_mk (Below.trod laidOut (by kernel_rfl) (of_decide_eq_true (by kernel_rfl)) k1 bel lt1) (trodAll_cons_mk (shut_int Tryz.underlying5 w2) (trodAll_cons_mk (shut_int Tryz.underlying3 w3) trodAll_mk0)))), rfl, bel.frame _, fun h => by cases h⟩

theorem over : Rows.configChecksRow.holds Tryz.pinned (OpenSpec.ofChange Rows.configChecksSpec) :=
  OpenClaim.holds_of_wide 3 Tryz.f3 rfl rfl rfl rfl rfl rfl rfl ⟨rfl, rfl, rfl, rfl, rfl⟩ rfl rfl rfl rfl rfl (by kernel_rfl) Tryz.func3 (by kernel_rfl)
    (of_decide_eq_true (by kernel_rfl)) (by unfold Func.isWrapper; first | (rw [if_pos (by decide +kernel)]; kernel_rfl) | (rw [if_neg (by decide +kernel)]; exact ⟨rfl, rfl⟩))
    (fun os started H enc _ => lifted os started H enc)

/-- The card: the row's listed variables tied to the program's text. -/
theorem card : Rows.ConfigChecksCardSaid :=
  Claim7.holds_tied_plain_at .later [] [.data, .data, .data, .data, .sentinel, .sentinel, .pinned, .pinned] true (true, "ca034340a9b12273e46232bae17f6eeaac939d60fd2b70e1008db9953de02f52") true
    over (fun _ h => by cases h) (by kernel_rfl) (fun _ h => by cases h) configChecks_row_tie rfl ⟨rfl, rfl⟩ (by kernel_rfl) rfl
    (fun f fn hf hfn => by
      obtain rfl : f = 3 := Option.some.inj ((show Tryz.prog.funcNamed "jobshop/jobshoplaw19.ConfigChecks" = some 3 by kernel_rfl).symm.trans hf) |>.symm
      obtain rfl : fn = Tryz.f3 := (Option.some.inj (Tryz.func3.symm.trans hfn)).symm
      exact ⟨by kernel_rfl, fun j t ht => by
        rw [Tryz.params3] at ht
        have hm : t ∈ [25, 28, 5, 3] := by simpa using Array.mem_of_getElem? ht
        have hall : ([25, 28, 5, 3].all fun u => !Tryz.prog.wantsStandIn u) = true := by kernel_rfl
        exact (show Tryz.prog.wantsStandIn t = false by simpa using List.all_eq_true.1 hall t hm)⟩)
    (by kernel_rfl)
#print axioms card
end Go.Proofs.YtedbbinlcdgkoaaGreatDoor.configChecks
