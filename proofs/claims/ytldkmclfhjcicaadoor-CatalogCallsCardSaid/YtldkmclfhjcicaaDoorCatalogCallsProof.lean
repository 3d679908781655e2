/-
  It is proved that jobshoplaw27.CatalogCalls returns true whatever its arguments, as the statement CatalogCallsCardSaid says; the package-level variables that the row lists are tied to the program's text. There are no other conditions. The walk is in YtldkmclfhjcicaaDoorMCalls; the rest of this text is the shell of a proof, written out for these arguments.
-/
import Derived.Test.YtldkmclfhjcicaaDoorRows
import Derived.Test.YtldkmclfhjcicaaDoorCards
import Derived.Test.YtldkmclfhjcicaaDoorTie
import Derived.Test.YtldkmclfhjcicaaDoorCLaid
import Derived.Test.YtldkmclfhjcicaaDoorArgC
import Derived.Test.YtldkmclfhjcicaaDoorMCalls
import Derived.SevenTiedAt
import Derived.WalkKit
import Derived.ProofKit
import Derived.OpenShut
import Derived.ShutString
import Derived.ChangeOld
import Derived.Below
namespace Go.Proofs.YtldkmclfhjcicaaDoor.catalogCalls
open Go.ChangeShapes Go.WideShapes Go.ChangeAt Go.RowKit
open Go.ChangeMaps (open_string shut_string)
set_option linter.unusedVariables false

theorem ownN : ownKnob Tryd.prog.godebug = none := by kernel_rfl
theorem laidOut : laidOutB Tryd.prog = true := by kernel_rfl

theorem walk (w : World) (ve0 vg0 : Value) (c0 : Cat) (n0 : c0.es.length ≤ 9223372036854775807) (m0 : c0.gs.length ≤ 9223372036854775807) (r0 : Rep (S0 (fun _ _ => False) w) (catV c0) (.agg #[ve0, vg0])) (a1 : Option Addr) (len1 cap1 : Nat) (l1 : List OpS) (g1 : ∀ o ∈ l1, OpOk o) (n1 : l1.length ≤ 9223372036854775807) (r1 : Rep (S0 (fun _ _ => False) w) (.sl 5 (l1.map opC)) (.slice a1 len1 cap1)) (e2 : Ent) (a3 : ByteArray) (w3 : a3.size ≤ maxLen) (a4 : Int) (w4 : (Lit.int .i64 a4).wf = true) (a5 : Int) (w5 : (Lit.int .i64 a5).wf = true) (a6 : Int) (w6 : (Lit.int .u8 a6).wf = true) :
    Calls Tryd.prog 7 #[.agg #[ve0, vg0], .slice a1 len1 cap1, .agg (entL4 e2).toArray, .string a3, .int .i64 a4, .int .i64 a5, .int .u8 a6] w fun e w' => e = .returned (.bool true) ∧ Below w.heap.size w w' := by
  obtain ⟨x6, rfl⟩ := Int.eq_ofNat_of_zero_le (w8 w6).1
  exact (CatalogCalls_in w ve0 vg0 c0 n0 m0 r0 _ l1 g1 n1 r1 _ e2 (ent_vrep e2) a3 a4 a5 w4 w5 x6 (by have := (w8 w6).2; omega)).mono fun e w' ⟨he, hc⟩ => ⟨he, hc.nil_below⟩

/-! ### THE ROW's STEP -/
set_option maxRecDepth 100000 in
theorem lifted (os : Os) (started : os.Started) (H : Type) (enc : TypeId × Value → H) :
    ReturnsInHanded {} Tryd.checked os 7 .any (fun w args => (Rows.catalogCallsSpec.pre enc Tryd.prog Tryd.f7 [] false w args ∧ laidMetH Tryd.prog laid2 w) ∧ sizedMet enc Tryd.prog Tryd.f7 (OpenSpec.ofChange Rows.catalogCallsSpec) false w args) (Rows.catalogCallsSpec.post enc Tryd.prog Tryd.f7 false true false false) := by
  refine returnsInHanded_of_change_and (C := Tryd.checked) (X := fun w _ => laidMetH Tryd.prog laid2 w) (fun _ _ _ hh h => h.of_heap hh) ownN started (by kernel_rfl) Tryd.func7
    (ChangeSpec.witness_shaped (enc := enc) (C := Tryd.checked) (os := os) (X := fun w _ => laidMetH Tryd.prog laid2 w) false (World.laidAll Tryd.prog os laid2) #[.agg #[.slice none 0 0, .slice none 0 0], .slice none 0 0, .agg #[.string ByteArray.empty, .int .i64 0, .string ByteArray.empty, .int .i64 0], .string ByteArray.empty, .int .i64 0, .int .i64 0, .int .u8 0] 8 (World.laidAll_os _ _ _) (World.shaped_of_ZipB (by kernel_rfl) (by kernel_rfl)) (by kernel_rfl) (by kernel_rfl) (by kernel_rfl) (door_met os _)) ?_
  intro W base args ds gs before hval0 hW _ _ hL _
  have hval : ∀ (j : Nat) t v, Tryd.f7.params[j]? = some t → args[j]? = some v → Value.okWide Tryd.prog W .any base t v := hval0
  have hW' := hW
  obtain ⟨p, q, hA0, hV, rfl, hfz, hnd⟩ := hW
  have hA : DataW.TrodAll enc Tryd.prog W 0 (fun _ => true) true Tryd.f7.params.toList args.toList ds p := hA0
  rw [Tryd.params7] at hA hval
  obtain ⟨v0, vs0, d0, ds0, p0, q0, hargs, rfl, rfl, h0, r0t⟩ := trodAll_cons hA
  obtain ⟨v1, vs1, d1, ds1, p1, q1, rfl, rfl, rfl, h1, r1t⟩ := trodAll_cons r0t
  obtain ⟨v2, vs2, d2, ds2, p2, q2, rfl, rfl, rfl, h2, r2t⟩ := trodAll_cons r1t
  obtain ⟨v3, vs3, d3, ds3, p3, q3, rfl, rfl, rfl, h3, r3t⟩ := trodAll_cons r2t
  obtain ⟨v4, vs4, d4, ds4, p4, q4, rfl, rfl, rfl, h4, r4t⟩ := trodAll_cons r3t
  obtain ⟨v5, vs5, d5, ds5, p5, q5, rfl, rfl, rfl, h5, r5t⟩ := trodAll_cons r4t
  obtain ⟨v6, vs6, d6, ds6, p6, q6, rfl, rfl, rfl, h6, r6t⟩ := trodAll_cons r5t
  obtain ⟨rfl, rfl, rfl⟩ := trodAll_nil r6t
  obtain rfl : args = #[v0, v1, v2, v3, v4, v5, v6] := by cases args; simp_all
  obtain ⟨rfl, rfl⟩ := trodVars_none hV
  have k0 := h0
  have lt0 : ∀ x ∈ p0, x.block < W.heap.size := by obtain ⟨m, hm⟩ := k0; exact DataW.trod_lt m _ _ _ hm
  obtain ⟨ve0, vg0, c0, rfl, n0, m0, r0⟩ := cat_arg (hval 0 36 v0 rfl rfl) h0
  obtain ⟨a1, len1, cap1, rfl⟩ := okWide_slice Tryd.underlying32 (hval 1 32 v1 rfl rfl)
  have s1 := okWide_spot Tryd.underlying32 (hval 1 32 _ rfl rfl)
  have k1 := h1
  have lt1 : ∀ x ∈ p1, x.block < W.heap.size := by obtain ⟨m, hm⟩ := k1; exact DataW.trod_lt m _ _ _ hm
  obtain ⟨l1, g1, n1, r1⟩ := ops_arg s1 h1
  have k2 := h2
  have lt2 : ∀ x ∈ p2, x.block < W.heap.size := by obtain ⟨m, hm⟩ := k2; exact DataW.trod_lt m _ _ _ hm
  obtain ⟨e2, rfl⟩ := ent_arg (hval 2 50 v2 rfl rfl) h2
  obtain ⟨a3, rfl, rfl, rfl, w3⟩ := open_string Tryd.underlying9 (hval 3 9 v3 rfl rfl) h3
  obtain ⟨a4, rfl, rfl, rfl, w4⟩ := open_int Tryd.underlying3 (hval 4 3 v4 rfl rfl) h4
  obtain ⟨a5, rfl, rfl, rfl, w5⟩ := open_int Tryd.underlying3 (hval 5 3 v5 rfl rfl) h5
  obtain ⟨a6, rfl, rfl, rfl, w6⟩ := open_int Tryd.underlying5 (hval 6 5 v6 rfl rfl) h6
  clear hA0 hval0
  simp only [List.append_nil] at hW'
  refine (walk W ve0 vg0 c0 n0 m0 r0 a1 len1 cap1 l1 g1 n1 r1 e2 a3 w3 a4 w4 a5 w5 a6 w6).mono fun e W' ⟨he, bel⟩ => ?_
  subst he
  exact ⟨_, rfl, _, _, _, [], _, [], hW', trodAll_mk1 (shut_bool Tryd.underlying4 _), (trodAll_cons_mk (Below.trod laidOut (by kernel_rfl) (of_decide_eq_true (by kernel_rfl)) k0 bel lt0) (trodAll_cons_mk (Below.trod laidOut (by kernel_rfl) (of_decide_eq_true (by kernel_rfl)) k1 bel lt1) (trodAll_cons_mk (Below.trod laidOut (by kernel_rfl) (of_decide_eq_true (by kernel_rfl)) k2 bel lt2) (trodAll_cons_mk (shut_string Tryd.underlying9 w3) (trodAll_cons_mk (shut_int Tryd.underlying3 w4) (trodAll_cons_mk (shut_int Tryd.underlying3 w5) (trodAll_cons_mk (shut_int Tryd.underlying5 w6) trodAll_mk0))))))), rfl, bel.frame _, fun h => by cases h⟩

theorem over : Rows.catalogCallsRow.holds Tryd.pinned (OpenSpec.ofChange Rows.catalogCallsSpec) :=
  OpenClaim.holds_of_wide 7 Tryd.f7 rfl rfl rfl rfl rfl rfl rfl ⟨rfl, rfl, rfl, rfl, rfl⟩ rfl rfl rfl rfl rfl (by kernel_rfl) Tryd.func7 (by kernel_rfl)
    (of_decide_eq_true (by kernel_rfl)) (by unfold Func.isWrapper; first | (rw [if_pos (by decide +kernel)]; kernel_rfl) | (rw [if_neg (by decide +kernel)]; exact ⟨rfl, rfl⟩))
    (fun os started H enc _ => lifted os started H enc)

/-- The card: the row's listed variables tied to the program's text. -/
theorem card : Rows.CatalogCallsCardSaid :=
  Claim7.holds_tied_plain_at .later [] [.data, .pinned] true (true, "3a2fa1c8d7ab4ed3a587036fb3211f657854f2c1edd324b1ca77efd121062976") false
    over (fun _ h => by cases h) (by kernel_rfl) (fun _ h => by cases h) catalogCalls_row_tie rfl ⟨rfl, rfl⟩ (by kernel_rfl) rfl
    (fun f fn hf hfn => by
      obtain rfl : f = 7 := Option.some.inj ((show Tryd.prog.funcNamed "jobshop/jobshoplaw27.CatalogCalls" = some 7 by kernel_rfl).symm.trans hf) |>.symm
      obtain rfl : fn = Tryd.f7 := (Option.some.inj (Tryd.func7.symm.trans hfn)).symm
      exact ⟨by kernel_rfl, fun j t ht => by
        rw [Tryd.params7] at ht
        have hm : t ∈ [36, 32, 50, 9, 3, 3, 5] := by simpa using Array.mem_of_getElem? ht
        have hall : ([36, 32, 50, 9, 3, 3, 5].all fun u => !Tryd.prog.wantsStandIn u) = true := by kernel_rfl
        exact (show Tryd.prog.wantsStandIn t = false by simpa using List.all_eq_true.1 hall t hm)⟩)
    (by kernel_rfl)
#print axioms card
end Go.Proofs.YtldkmclfhjcicaaDoor.catalogCalls
