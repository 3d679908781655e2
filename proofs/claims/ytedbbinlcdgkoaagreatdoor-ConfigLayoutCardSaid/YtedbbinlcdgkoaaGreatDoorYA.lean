import Derived.Lib.Builder
import Derived.Outline
import Derived.WalkMore
import Derived.Test.YtedbbinlcdgkoaaGreatDoorVZ
import Derived.Test.YtedbbinlcdgkoaaGreatDoorQJ
/- strings.Builder as an object that functions are given: copyCheck, WriteString, WriteByte. -/
-- SIMP: bytesR_len, List.length_append, Nat.le_refl, ofVal_nilJ
namespace Go.Proofs.YtedbbinlcdgkoaaGreatDoor
open Go.RowKit
-- FUSE
-- LESS
set_option linter.unusedVariables false
set_option linter.unusedSimpArgs false
theorem ofVal_nilJ : ofVal .nilIface = .raw .nilIface := rfl
theorem rowAt_zero (P : Program) (fits : TypeId → Bool) (d T n : Nat) (hc : P.cellsOf T = 2) (hf : fits T = true) (hn : 1 ≤ n) : rowAt P fits (d + 1) T n 0 1 = true := by
  unfold rowAt
  simp [hc, hf, hn]
theorem liesAt_zero (P : Program) (d T n : Nat) (hd : 0 < P.depth) (hc : P.cellsOf T = 2) (hf : sameLayout P P.depth T T = true) (hn : 1 ≤ n) : liesAt P (d + 1) T n 0 T 1 = true := by
  unfold liesAt
  have : ∀ k, 0 < k → rowAt P (sameLayout P P.depth · T) k T n 0 1 = true := fun k hk => by
    obtain ⟨j, rfl⟩ : ∃ j, k = j + 1 := ⟨k - 1, by omega⟩
    exact rowAt_zero P _ j T n hc hf hn
  rw [this _ hd]; rfl
theorem lies_bld (n : Nat) (hn : 2 ≤ n) : liesAt Tryz.prog Tryz.prog.depth 79 (n / Tryz.prog.cellsOf 79) 0 79 1 = true := by
  have hc : Tryz.prog.cellsOf 79 = 2 := by kernel_rfl
  have hf : sameLayout Tryz.prog Tryz.prog.depth 79 79 = true := by kernel_rfl
  have hd : 0 < Tryz.prog.depth := of_decide_eq_true (by kernel_rfl)
  have key : ∀ k, 0 < k → liesAt Tryz.prog k 79 (n / Tryz.prog.cellsOf 79) 0 79 1 = true := fun k hk => by
    obtain ⟨j, rfl⟩ : ∃ j, k = j + 1 := ⟨k - 1, by omega⟩
    exact liesAt_zero _ j _ _ hd hc hf (by rw [hc]; omega)
  exact key _ hd
theorem info_bld : (Tryz.prog.info? 79).map (·.size) = some 2 := by kernel_rfl
set_option maxHeartbeats 2000000 in
set_option maxRecDepth 100000 in
theorem copyCheck_used (b : Nat) (w : World) (h0 : w.cell? ⟨b, 0, none⟩ = some (.pointer (some ⟨b, 0, none⟩))) :
    Calls Tryz.prog 79 #[.pointer (some ⟨b, 0, none⟩)] w fun e w' => e = .returned (.tuple #[]) ∧ w' = w := by
  obtain ⟨j, hj, _⟩ := Option.map_eq_some_iff.1 info_bld
  go_enter Tryz.func79, Tryz.ntmps79
  go_wp2
  rw [Lib.run_neq_ptr_same w _ Tryz.underlying77 hj]
  go_wp2
  go_end0
  exact ⟨rfl, rfl⟩
set_option maxHeartbeats 2000000 in
set_option maxRecDepth 100000 in
theorem copyCheck_fresh (b n : Nat) (hn : 2 ≤ n) (w : World) (h0 : w.cell? ⟨b, 0, none⟩ = some (.pointer none)) (hsh : w.shape? b = some (79, n)) (hfz : w.frozen? ⟨b, 0, none⟩ = false) :
    Calls Tryz.prog 79 #[.pointer (some ⟨b, 0, none⟩)] w fun e w' => e = .returned (.tuple #[]) ∧ w' = w.setCell ⟨b, 0, none⟩ (.pointer (some ⟨b, 0, none⟩)) := by
  obtain ⟨j, hj, hjs⟩ := Option.map_eq_some_iff.1 info_bld
  go_enter Tryz.func79, Tryz.ntmps79
  go_wp2
  rw [Lib.run_to_unsafe w ⟨b, 0, none⟩ Tryz.underlying77 Tryz.underlying143 hj (by rw [hjs]; decide) hsh (show 0 < n by omega)]
  simp only [Result.andThen]
  rw [Oper.upon_value]
  go_wp2
  rw [run_callFunc_extern Tryz.func105 (by kernel_rfl) (by kernel_rfl) (by kernel_rfl) (e := Extern.AbiNoEscape.same) (by kernel_rfl)]
  rw [Lib.run_noEscape]
  simp only [Result.andThen]
  rw [Oper.upon_value]
  go_wp2
  rw [Lib.run_from_unsafe w ⟨b, 0, none⟩ Tryz.underlying143 Tryz.underlying77 hj hsh (lies_bld n hn)]
  simp only [Result.andThen]
  rw [Oper.upon_value]
  go_wp2
  go_end0
  exact ⟨rfl, rfl⟩
def selfV (u : Bool) : V := if u then .ptr 1000000 0 else .raw (.pointer none)
def bldO (u : Bool) (l : Bs) : List (Nat × Ob) := [(1000000, .box 79 [selfV u, .own 1000002 l.length]), (1000002, .arr 1 5 (bytesR l))]
theorem bld_box (u : Bool) (l : Bs) : lko (bldO u l) 1000000 = some (.box 79 [selfV u, .own 1000002 l.length]) := rfl
theorem bld_arr (u : Bool) (l : Bs) : lko (bldO u l) 1000002 = some (.arr 1 5 (bytesR l)) := rfl
theorem bld_only {u : Bool} {l : Bs} {o : Nat} {T : TypeId} {c : List V} (h : lko (bldO u l) o = some (.box T c)) : o = 1000000 ∧ T = 79 ∧ c = [selfV u, .own 1000002 l.length] := by
  unfold bldO lko at h
  split at h
  · rename_i e; injection h with h; injection h with h1 h2; exact ⟨e, h1.symm, h2.symm⟩
  · unfold lko at h
    split at h
    · cases h
    · cases h
theorem bld_closed (u : Bool) (l : Bs) : ∀ o T c, lko (bldO u l) o = some (.box T c) → ∀ q ∈ V.refsL c, RefOk (lko (bldO u l)) q := by
  intro o T c h q hq
  obtain ⟨rfl, rfl, rfl⟩ := bld_only h
  simp only [V.refsL, List.append_nil] at hq
  rcases List.mem_append.1 hq with z | z
  · cases u
    · cases z
    · simp only [selfV, if_true, V.refs, List.mem_singleton] at z
      subst z
      exact ⟨_, bld_box true l, rfl⟩
  · simp only [V.refs, List.mem_singleton] at z
    subst z
    exact ⟨1, _, _, bld_arr u l, by rw [bytesR_len]; exact Nat.le_refl _⟩
theorem copyCheck_B (u : Bool) (l : Bs) : SpecB Tryz.prog 79 [.ptr 1000000 0] (bldO u l) (.tup []) (bldO true l) := by
  refine ⟨⟨_, Tryz.func79, rfl, by decide⟩, ⟨fun q hq => by simp [V.refs, V.refsL] at hq, bld_closed true l⟩, fun o h => ?_, fun M L Z β w vs hO hv => ?_⟩
  · unfold bldO lko at h ⊢
    split
    · simp
    · rename_i e
      rw [if_neg e] at h
      exact h
  · obtain ⟨v1, vs1, rfl, hv1, hv2⟩ := hv
    have hv1 : v1 = .pointer (some ⟨β.pb 1000000, 0, none⟩) := hv1
    have hv2 : vs1 = [] := hv2
    subst hv1; subst hv2
    obtain ⟨g1, cs, rest, g2, g3, g4⟩ := hO.box _ _ _ (bld_box u l)
    obtain ⟨c0, cs1, rfl, k0, c1, cs2, rfl, k1, k2⟩ := g4
    have k2 : cs2 = [] := k2
    subst k2
    have d0 : w.cell? ⟨β.pb 1000000, 0, none⟩ = some c0 := by rw [Lib.cell_of_heap g2]; rfl
    cases u
    · have k0 : c0 = .pointer none := k0
      subst k0
      have hsim : Sim ⟨w, L, M, 0, lko (bldO false l), β, Z, 0⟩ β ⟨fun _ => .any, lko (bldO false l)⟩ act0 w :=
        ⟨hO, ⟨(fun i r hr => by simp [V.refs] at hr), bld_closed false l⟩, fun i => trivial, Marks.none (Nat.zero_le _), rfl⟩
      refine (copyCheck_fresh (β.pb 1000000) (2 + rest.length) (by omega) w d0 (by unfold World.shape?; rw [g2]; simp; omega) (Lib.frozen_of_heap g2 0)).mono ?_
      rintro e w' ⟨rfl, rfl⟩
      have hset := hsim.setBox (o := 1000000) (T := 79) (c := [selfV false, .own 1000002 l.length]) (c' := [.ptr 1000000 0, .own 1000002 l.length]) (W' := w.setCell ⟨β.pb 1000000, 0, none⟩ (.pointer (some ⟨β.pb 1000000, 0, none⟩))) (cs := [.pointer (some ⟨β.pb 1000000, 0, none⟩), c1]) (rest := rest) (bld_box false l)
        (Chg.setCell w (p := ⟨β.pb 1000000, 0, none⟩) (.inl (by simp)) _) (by simp [World.setCell, Array.getElem?_modify, g2]) (fun x hx => by
          rcases List.mem_cons.1 hx with rfl | hx
          · rfl
          · exact g3 x (List.mem_cons_of_mem _ hx)) ⟨_, _, rfl, rfl, _, _, rfl, k1, rfl⟩ (fun r hr => by
          simp only [V.refsL, List.append_nil] at hr
          rcases List.mem_append.1 hr with z | z
          · simp only [V.refs, List.mem_singleton] at z
            subst z
            exact ⟨_, bld_box false l, rfl⟩
          · simp only [V.refs, List.mem_singleton] at z
            subst z
            exact ⟨1, _, _, bld_arr false l, by rw [bytesR_len]; exact Nat.le_refl _⟩)
      have hos : up (lko (bldO false l)) 1000000 (some (.box 79 [.ptr 1000000 0, .own 1000002 l.length])) = lko (bldO true l) := by
        funext o
        unfold up bldO lko
        by_cases e : o = 1000000
        · rw [if_pos e, if_pos e]; rfl
        · rw [if_neg e, if_neg e, if_neg e]
      have hobj := hset.objs
      simp only [hos] at hobj
      exact ⟨_, β, rfl, hobj, ⟨[], rfl, rfl⟩⟩
    · have k0 : c0 = .pointer (some ⟨β.pb 1000000, 0, none⟩) := k0
      subst k0
      refine (copyCheck_used (β.pb 1000000) w d0).mono ?_
      rintro e w' ⟨rfl, rfl⟩
      exact ⟨_, β, rfl, hO, ⟨[], rfl, rfl⟩⟩
theorem bytesR_app (a b : Bs) : bytesR (a ++ b) = bytesR a ++ bytesR b := by unfold bytesR; rw [List.map_append]
set_option maxHeartbeats 4000000 in
set_option maxRecDepth 4000 in
theorem WriteString_B (u : Bool) (l s : Bs) (hl : l.length ≤ 1000000) (hs : s.length ≤ 1000000) : SpecB Tryz.prog 58 [.ptr 1000000 0, .str s] (bldO u l) (.tup [.int .i64 (s.length : Int), .raw .nilIface]) (bldO true (l ++ s)) := by
  have hcc := copyCheck_B u l
  unfold bldO at hcc ⊢
  have hb := bytesR_app l s
  have h1 : ∀ x : Bs, (bytesR x).length = x.length := bytesR_len
  simp only [hb, List.length_append, selfV, if_true] at hcc ⊢
  cases u
  all_goals
    simp only [if_true, if_false, Bool.false_eq_true] at hcc ⊢
    refine specB_of tt_ok Tryz.func58 rfl (by decide) Tryz.ntmps58 (congrArg Array.toList Tryz.results58) (by simp) (by decide) rfl (by simp only [go_sem, Int.reduceEq, Int.reduceLT, Nat.reduceEqDiff, Nat.reduceAdd, Nat.reduceMul, Nat.reduceLT, Nat.reduceLeDiff, Int.reduceToNat, bytesR_len, List.length_append, Nat.le_refl, ofVal_nilJ]) (fun F hF => ?_)
    refine vwp_seq_k fun Na hNa => vreg tt_ok hF rfl ?_; simp only [go_sem, Int.reduceEq, Int.reduceLT, Nat.reduceEqDiff, Nat.reduceAdd, Nat.reduceMul, Nat.reduceLT, Nat.reduceLeDiff, Int.reduceToNat, bytesR_len, List.length_append, Nat.le_refl, ofVal_nilJ]
    refine hNa _ (VWp.keepR [0,1] [1000000,1000002] tt_ok hF rfl fun Nb hNb => ?_); simp only [go_sem, Int.reduceEq, Int.reduceLT, Nat.reduceEqDiff, Nat.reduceAdd, Nat.reduceMul, Nat.reduceLT, Nat.reduceLeDiff, Int.reduceToNat, bytesR_len, List.length_append, Nat.le_refl, ofVal_nilJ]
    refine .inr (bxo [(1000000, 1000000), (1000002, 1000002)] rfl ?_); simp only [go_sem, Int.reduceEq, Int.reduceLT, Nat.reduceEqDiff, Nat.reduceAdd, Nat.reduceMul, Nat.reduceLT, Nat.reduceLeDiff, Int.reduceToNat, bytesR_len, List.length_append, Nat.le_refl, ofVal_nilJ]; refine ⟨_, _, hcc, ?_⟩; try simp only [go_sem, Int.reduceEq, Int.reduceLT, Nat.reduceEqDiff, Nat.reduceAdd, Nat.reduceMul, Nat.reduceLT, Nat.reduceLeDiff, Int.reduceToNat, bytesR_len, List.length_append, Nat.le_refl, ofVal_nilJ]
    refine hNb _ (VWp.keepR [0,1] [1000000,1000002] tt_ok hF rfl fun Nc hNc => ?_); simp only [go_sem, Int.reduceEq, Int.reduceLT, Nat.reduceEqDiff, Nat.reduceAdd, Nat.reduceMul, Nat.reduceLT, Nat.reduceLeDiff, Int.reduceToNat, bytesR_len, List.length_append, Nat.le_refl, ofVal_nilJ]
    refine ⟨by omega, ?_⟩
    refine hNc _ (VWp.keepR [1] [1000000,1000002] tt_ok hF rfl fun Nd hNd => ?_); simp only [go_sem, Int.reduceEq, Int.reduceLT, Nat.reduceEqDiff, Nat.reduceAdd, Nat.reduceMul, Nat.reduceLT, Nat.reduceLeDiff, Int.reduceToNat, bytesR_len, List.length_append, Nat.le_refl, ofVal_nilJ]
    refine hNd _ (VWp.keep [4,5] [1000000,1000002] ?_); simp only [go_sem, Int.reduceEq, Int.reduceLT, Nat.reduceEqDiff, Nat.reduceAdd, Nat.reduceMul, Nat.reduceLT, Nat.reduceLeDiff, Int.reduceToNat, bytesR_len, List.length_append, Nat.le_refl, ofVal_nilJ]
    refine vwp_ret ?_
    simp only [go_sem, Int.reduceEq, Int.reduceLT, Nat.reduceEqDiff, Nat.reduceAdd, Nat.reduceMul, Nat.reduceLT, Nat.reduceLeDiff, Int.reduceToNat, bytesR_len, List.length_append, Nat.le_refl, ofVal_nilJ]
    first | done | exact LeV.refl _ | exact ⟨LeV.refl _, by first | rfl | simp⟩
set_option maxHeartbeats 4000000 in
set_option maxRecDepth 4000 in
theorem WriteByte_B (u : Bool) (l : Bs) (c : UInt8) (hl : l.length ≤ 1000000) : SpecB Tryz.prog 60 [.ptr 1000000 0, .int .u8 (c.toNat : Int)] (bldO u l) (.raw .nilIface) (bldO true (l ++ [c])) := by
  have hcc := copyCheck_B u l
  unfold bldO at hcc ⊢
  have hb : bytesR (l ++ [c]) = bytesR l ++ [[.int .u8 (c.toNat : Int)]] := bytesR_app l [c]
  simp only [hb, List.length_append, List.length_cons, List.length_nil, selfV, if_true] at hcc ⊢
  cases u
  all_goals
    simp only [if_true, if_false, Bool.false_eq_true] at hcc ⊢
    refine specB_of tt_ok Tryz.func60 rfl (by decide) Tryz.ntmps60 (congrArg Array.toList Tryz.results60) (by simp) (by decide) rfl (by simp only [go_sem, Int.reduceEq, Int.reduceLT, Nat.reduceEqDiff, Nat.reduceAdd, Nat.reduceMul, Nat.reduceLT, Nat.reduceLeDiff, Int.reduceToNat, bytesR_len, List.length_append, Nat.le_refl, ofVal_nilJ]) (fun F hF => ?_)
    refine vwp_seq_k fun Na hNa => vreg tt_ok hF rfl ?_; simp only [go_sem, Int.reduceEq, Int.reduceLT, Nat.reduceEqDiff, Nat.reduceAdd, Nat.reduceMul, Nat.reduceLT, Nat.reduceLeDiff, Int.reduceToNat, bytesR_len, List.length_append, Nat.le_refl, ofVal_nilJ]
    refine hNa _ (VWp.keepR [0,1] [1000000,1000002] tt_ok hF rfl fun Nb hNb => ?_); simp only [go_sem, Int.reduceEq, Int.reduceLT, Nat.reduceEqDiff, Nat.reduceAdd, Nat.reduceMul, Nat.reduceLT, Nat.reduceLeDiff, Int.reduceToNat, bytesR_len, List.length_append, Nat.le_refl, ofVal_nilJ]
    refine .inr (bxo [(1000000, 1000000), (1000002, 1000002)] rfl ?_); simp only [go_sem, Int.reduceEq, Int.reduceLT, Nat.reduceEqDiff, Nat.reduceAdd, Nat.reduceMul, Nat.reduceLT, Nat.reduceLeDiff, Int.reduceToNat, bytesR_len, List.length_append, Nat.le_refl, ofVal_nilJ]; refine ⟨_, _, hcc, ?_⟩; try simp only [go_sem, Int.reduceEq, Int.reduceLT, Nat.reduceEqDiff, Nat.reduceAdd, Nat.reduceMul, Nat.reduceLT, Nat.reduceLeDiff, Int.reduceToNat, bytesR_len, List.length_append, Nat.le_refl, ofVal_nilJ]
    refine hNb _ (VWp.keepR [0,1] [1000000,1000002] tt_ok hF rfl fun Nc hNc => ?_); simp only [go_sem, Int.reduceEq, Int.reduceLT, Nat.reduceEqDiff, Nat.reduceAdd, Nat.reduceMul, Nat.reduceLT, Nat.reduceLeDiff, Int.reduceToNat, bytesR_len, List.length_append, Nat.le_refl, ofVal_nilJ]
    refine ⟨by omega, ?_⟩
    refine hNc _ (VWp.keepR [] [1000000,1000002] tt_ok hF rfl fun Nd hNd => ?_); simp only [go_sem, Int.reduceEq, Int.reduceLT, Nat.reduceEqDiff, Nat.reduceAdd, Nat.reduceMul, Nat.reduceLT, Nat.reduceLeDiff, Int.reduceToNat, bytesR_len, List.length_append, Nat.le_refl, ofVal_nilJ]
    refine hNd _ (VWp.keep [4] [1000000,1000002] ?_); simp only [go_sem, Int.reduceEq, Int.reduceLT, Nat.reduceEqDiff, Nat.reduceAdd, Nat.reduceMul, Nat.reduceLT, Nat.reduceLeDiff, Int.reduceToNat, bytesR_len, List.length_append, Nat.le_refl, ofVal_nilJ]
    refine vwp_ret ?_
    simp only [go_sem, Int.reduceEq, Int.reduceLT, Nat.reduceEqDiff, Nat.reduceAdd, Nat.reduceMul, Nat.reduceLT, Nat.reduceLeDiff, Int.reduceToNat, bytesR_len, List.length_append, Nat.le_refl, ofVal_nilJ]
    first | done | exact LeV.refl _ | exact ⟨LeV.refl _, by first | rfl | simp⟩
end Go.Proofs.YtedbbinlcdgkoaaGreatDoor
