/- PackedOwn: arguments stay as they are, and results are new memory. -/
import Derived.Test.YtmmhokcdchhciaaWorks
import Derived.Test.YtmmhokcdchhciaaArg
import Derived.Test.YtmmhokcdchhciaaApp3
import Derived.Test.YtmmhokcdchhciaaPackedUnpacks
import Derived.Deep.DeepCutAuto
import Derived.Deep.RegionHeld3
import Derived.KernelRfl
namespace Go.Proofs.Ytmmhokcdchhciaa
open Go.RowKit Go.Shelf
set_option linter.unusedVariables false

/-- The slice v is of n bytes, in a row of the call's own. -/
def Own1 (W : World) (B : Nat) (v : Value) (n : Nat) : Prop := ∃ xs : Bs, W.ownsRow B 5 1 v n (xs.map eb)
theorem Own1.keep {W W' : World} {B : Nat} {v : Value} {n : Nat} (h : Own1 W B v n) (hc : Chg [] W W') : Own1 W' B v n := by
  obtain ⟨xs, h⟩ := h; exact ⟨xs, own_keep h hc (by simp)⟩
theorem Own1.base {W : World} {B B' : Nat} {v : Value} {n : Nat} (h : Own1 W B v n) (hB : B' ≤ B) : Own1 W B' v n := by
  obtain ⟨xs, h⟩ := h; exact ⟨xs, own_base h hB⟩
theorem Own1.write {W : World} {B : Nat} {v : Value} {n : Nat} (h : Own1 W B v n) (g i : Nat) (y : UInt8) : Own1 (W.setCell ⟨g, i, none⟩ (eb y)) B v n := by
  obtain ⟨xs, h⟩ := h
  rcases h.2 with h2 | ⟨g', cap, cur, rfl, hb, hg, hnc, hcm, hcs, htake⟩
  · exact ⟨xs, h.1, .inl h2⟩
  · by_cases e : g' = g
    · subst e
      refine ⟨xs.set i y, by have := h.1; simpa using this, .inr ⟨g', cap, cur.setIfInBounds i (eb y), rfl, hb, heap_setCell_same W g' i cur _ _ hg, hnc, hcm, by simpa using hcs, ?_⟩⟩
      rw [List.map_set, ← htake, Array.toList_setIfInBounds]
      refine List.ext_getElem? fun j => ?_
      simp only [List.getElem?_take, List.getElem?_set, List.length_take]
      split <;> split <;> simp_all <;> omega
    · exact ⟨xs, h.1, .inr ⟨g', cap, cur, rfl, hb, by rw [heap_setCell_other _ _ g' _ (by simpa using fun e2 => e e2)]; exact hg, hnc, hcm, hcs, htake⟩⟩
theorem Own1.at {W : World} {B : Nat} {v : Value} {n : Nat} (h : Own1 W B v n) (i : Nat) (hi : i < n) : ∃ g cap, ∃ x : UInt8, v = .slice (some ⟨g, 0, none⟩) n cap ∧ n ≤ cap ∧ cap ≤ 9223372036854775807 ∧ B ≤ g ∧
    W.cell? ⟨g, i, none⟩ = some (.int .u8 (x.toNat : Nat)) ∧ W.frozen? ⟨g, i, none⟩ = false := by
  obtain ⟨xs, h⟩ := h
  obtain ⟨g, cap, u, rfl, h1, h2, h3, h4, h5, h6, h7, _⟩ := own_set h i hi
  have h6 := h6.out
  rw [List.getElem?_map] at h6
  cases hx : xs[i]? with
  | none => rw [hx] at h6; cases h6
  | some x => rw [hx] at h6; cases h6; exact ⟨g, cap, x, rfl, h1, h2, h3, h5, h7⟩
theorem Own1.shape {W : World} {B : Nat} {v : Value} {n : Nat} (h : Own1 W B v n) : ∃ a cap, v = .slice a n cap := by
  obtain ⟨xs, h⟩ := h
  rcases h.2 with ⟨rfl, rfl⟩ | ⟨g', cap, cur, rfl, _⟩
  · exact ⟨_, _, rfl⟩
  · exact ⟨_, _, rfl⟩

theorem xor_eb (x : UInt8) : ∃ y : UInt8, Value.int .u8 (bits BinOp.xor .u8 (x.toNat : Nat) 255) = eb y := by
  obtain ⟨h1, h2⟩ := u8_range (wf_bits BinOp.xor .u8 ((x.toNat : Nat) : Int) 255)
  refine ⟨UInt8.ofNat (bits BinOp.xor .u8 ((x.toNat : Nat) : Int) 255).toNat, ?_⟩
  rw [eb, toNat_ofNat (by omega)]
  congr 1
  try omega
theorem packS_len (b : Bs) (n : Int) : (packS b n).length ≤ 1000 := by
  unfold packS
  split
  · rename_i h
    rw [fld_length]
    unfold okSize at h
    simp at h
    omega
  · simp
theorem unpackS_len (b : Bs) (n : Int) : (unpackS b n).length ≤ 1000 := by
  unfold unpackS
  split
  · rename_i h
    rw [unpF_length]
    unfold okSize at h
    simp at h
    omega
  · simp
theorem offS_len (b c : Bs) : (offS b c).length ≤ 1000 := by
  unfold offS
  split
  · rename_i h
    rw [fld_length]
    unfold okSize at h
    simp at h
    omega
  · simp

set_option maxRecDepth 100000 in
set_option maxHeartbeats 4000000 in
theorem pown_in (w : World) (v : Value) (x0 : Bs) (n : Int) (hn : 0 ≤ n) (hn2 : n < 256) (hv : Reads w v x0) (hsp : v = .slice none 0 0 ∨ ∃ bb off k cap, v = .slice (some ⟨bb, off, none⟩) k cap) :
    Calls Try.prog 9 #[v, .int .u8 n] w fun e w' => e = .returned (.bool true) ∧ Chg [] w w' := by
  obtain ⟨M, hM⟩ : ∃ M, x0.length = M := ⟨_, rfl⟩
  obtain ⟨va, vc, rfl⟩ := hv.shape hM
  have HSP : Hid ((va = none ∧ vc = 0) ∨ ∃ bb off, va = some ⟨bb, off, none⟩) := by
    rcases hsp with h | ⟨bb, off, k, cap, h⟩
    · cases h; exact .inl ⟨rfl, rfl⟩
    · cases h; exact .inr ⟨bb, off, rfl⟩
  clear hsp
  have HV := hid hv
  have HM := hid hM
  clear hv hM
  obtain ⟨z, hz⟩ : ∃ z : Nat, 1 + n % 16 = (z : Int) := ⟨(1 + n % 16).toNat, by omega⟩
  have hz1 : 1 ≤ z := by omega
  have hz2 : z ≤ 16 := by omega
  have HZ := hid hz
  clear hz
  go_enter Try.func9, Try.ntmps9
  go_upto_if 15 with (go_at_call 15; refine (works_yes _).mono ?_; rintro e w1 ⟨rfl, hc1⟩; have HC1 := hid hc1; have HV1 := hid (HV.out.keep hc1 (by simp)); clear hc1)
  go_cut [0] (fun v W => ∃ a k c b, v = .slice a k c ∧ Reads W (.slice a k c) b ∧ b.length = k ∧ k ≤ 16 ∧ Chg [] w W ∧ ((a = none ∧ c = 0) ∨ ∃ bb off, a = some ⟨bb, off, none⟩))
  case first =>
    by_cases hM : M > 16
    · rcases HV1.out.parts HM.out with ⟨_, h0, _⟩ | ⟨bb, off, cap, hv, hm1, hm2, hm3, _⟩
      · omega
      cases hv
      have hr := hid (HV1.out.take 16 (by omega))
      go_wp2_with (fail)
      go_meet
      exact ⟨_, _, _, _, rfl, hr.out, by rw [List.length_take, HM.out]; omega, by omega, HC1.out, .inr ⟨_, _, rfl⟩⟩
    · go_wp2_with (fail)
      go_meet
      exact ⟨_, _, _, _, rfl, HV1.out, HM.out, by omega, HC1.out, HSP.out⟩
  case rest =>
    clear HV HM HC1 HV1 HSP
    obtain ⟨a, L, c, b, rfl, hr, hk, hk16, hc, hsp⟩ := hcut
    have HR := hid hr
    have HK := hid hk
    have HC := hid hc
    clear hr hk hc
    have HO := hid (own_made0 wc 5)
    go_upto_region 5 with (fail)
    go_cut [5] (fun v W => ∃ g cap, v = .slice (some ⟨g, 0, none⟩) (L + 2) cap ∧ L + 2 ≤ cap ∧ cap ≤ 9223372036854775807 ∧ Reads W (.slice (some ⟨g, 0, none⟩) (L + 2) cap) (b ++ [170, 187]) ∧ Chg [] wc W)
    case first =>
      have hfin : ∀ (W W' : World) (v1 v2 : Value) (k : Nat), W.ownsRow wc.heap.size 5 1 v1 k (b.map eb) → Chg [] wc W → W'.ownsRow wc.heap.size 5 1 v2 (L + 2) (b.map eb ++ [.int .u8 170, .int .u8 187]) → Chg (own v1) W W' →
          ∃ g cap, v2 = .slice (some ⟨g, 0, none⟩) (L + 2) cap ∧ L + 2 ≤ cap ∧ cap ≤ 9223372036854775807 ∧ Reads W' (.slice (some ⟨g, 0, none⟩) (L + 2) cap) (b ++ [170, 187]) ∧ Chg [] wc W' := by
        intro W W' v1 v2 k h1 h2 h3 h4
        have h5 := chg_own h2 h1 (Nat.le_refl _) h4
        have h6 : W'.ownsRow wc.heap.size 5 1 v2 (b ++ [170, 187]).length ((b ++ [170, 187]).map eb) := by
          rw [List.map_append, List.length_append, HK.out]; exact h3
        have h7 := Reads.of_own h6
        rcases h3.2 with ⟨_, h8⟩ | ⟨g, cap, cur, rfl, _, _, h8, h9, _⟩
        · omega
        · exact ⟨g, cap, rfl, h8, h9, h7, h5⟩
      have HF := hid hfin
      clear hfin
      rcases hsp with ⟨rfl, rfl⟩ | ⟨bb, off, rfl⟩
      · have hb : b = [] := by obtain ⟨_, _, hv, _, _, h, _⟩ := HR.out; cases hv; exact h rfl
        have hl := HK.out
        rw [hb] at hl
        obtain rfl : L = 0 := by simpa using hl.symm
        clear hl
        have HB := hid hb
        clear hb
        obtain ⟨i, q1, q2, q3, q4⟩ := info_parts info_u8
        have Q1 := hid q1
        clear q1 q2 q3 q4
        go_wp2_with (first
          | (at_builtin; refine wpList_append_own_none rfl _ _ 22 rfl wc.heap.size 5 i 1 Try.underlying22 Q1.out _ 0 [] rfl HO.out rfl ?_)
          | (at_builtin; refine appendN2 rfl _ _ 22 rfl wc.heap.size 5 1 (.int .u8 0) Try.underlying22 info_u8 rfl (by decide) 2 [_, _] rfl (wc.heap.size + 1) (by simp) HO.out rfl rfl (by simp [Value.oneCell']) (by omega) (by simp) ?_; intro v' w' ho' hc'))
        go_meet
        refine HF.out (wc.alloc (.cells #[] 5)) w' _ v' 0 (by rw [HB.out]; exact HO.out) (Chg.alloc _ _ _) ?_ hc'
        rw [HB.out]
        simpa using ho'
      · go_wp2_with (first
          | (at_builtin; refine appendR rfl _ _ 22 rfl wc.heap.size 5 1 (.int .u8 0) Try.underlying22 info_u8 rfl (by decide) b L bb off c HK.out (HR.out.keep (Chg.alloc [] _ _) (by simp)) HO.out rfl rfl (by omega) (by simp) ?_; intro v1 w1' ho1 hc1; have HO1 := hid ho1; have HC1 := hid hc1; have hz1' := hc1.size; simp at hz1'; clear ho1 hc1)
          | (at_builtin; refine appendN rfl _ _ 22 rfl wc.heap.size 5 1 (.int .u8 0) Try.underlying22 info_u8 rfl (by decide) 2 [_, _] rfl HO1.out rfl rfl (by simp [Value.oneCell']) (by omega) (by omega) ?_; intro v' w' ho' hc'))
        go_meet
        refine HF.out w1' w' v1 v' (0 + L) (by simpa using HO1.out) ((Chg.alloc _ _ _).then HC1.out (fun i hi hlt => by simp [own, Value.ownBlock] at hi; omega)) ?_ hc'
        simpa using ho'
    case rest =>
      clear HO hsp
      obtain ⟨g, cap, rfl, hg1, hg2, hin, hc⟩ := hcut
      have HIN := hid hin
      have HCI := hid hc
      have HRI := hid (HR.out.keep hc (by simp))
      clear hin hc
      go_wp2_with (fail)
      go_loopw [7] (fun i wr => ∃ j : Nat, j ≤ 2 ∧ i = .int .i64 j ∧ Chg [] wc wr) (fun i _ => 2 - (intOf i).toNat)
      case atStart => exact ⟨0, by omega, rfl, Chg.refl _ _⟩
      case round =>
        obtain ⟨j, hj, rfl, hc⟩ := hrel
        by_cases hlt : j < 2
        · have hr10 := (HIN.out.take L (by omega)).keep hc (by simp)
          rw [List.take_append_of_le_length (by rw [HK.out]; exact Nat.le_refl _), List.take_of_length_le (by rw [HK.out]; exact Nat.le_refl _)] at hr10
          have HR10 := hid hr10
          have HC10 := hid hc
          clear hr10 hc
          go_upto_region 10 with (fail)
          go_cut [58, 59] (fun v i W => ∃ o0 o1 o2 o3 n0 n1 n2 n3, v = .agg #[o0, o1, o2, o3] ∧ i = .int .i64 0 ∧ Own1 W wr.heap.size o0 n0 ∧ Own1 W wr.heap.size o1 n1 ∧ Own1 W wr.heap.size o2 n2 ∧ Own1 W wr.heap.size o3 n3 ∧ n0 ≤ 1000 ∧ n1 ≤ 1000 ∧ n2 ≤ 1000 ∧ n3 ≤ 1000 ∧ Chg [] wr W)
          case first =>
            have hz0 : (0 : Int) ≤ (L : Int) := by omega
            have hz3 : (L : Int) ≤ (cap : Int) := by omega
            go_region_held3 (fun _ => True)
              (first | go_keep | trivial)
              (first
                | (go_at_call 18; refine (Pack_any _ _ b _ (HR10.out.keep (by first | exact Chg.drew [] _ | exact (Chg.alloc [] _ _).trans (Chg.drew [] _)) (by simp))).mono ?_; rintro e w1 ⟨o0, rfl, ho, hc'⟩; have HC1 : Hid (Chg [] wr w1) := (by first | exact (Chg.drew [] _).trans hc' | exact ((Chg.alloc [] _ _).trans (Chg.drew [] _)).trans hc'); have HO0 : Hid (Own1 w1 wr.heap.size o0 (packS b (1 + n % 16)).length) := ⟨_, own_base ho (by first | exact Nat.le_refl _ | exact Nat.le_succ _ | (simp; done))⟩; obtain ⟨oa0, oc0, rfl⟩ := HO0.out.shape; have HR11 := hid (HR10.out.keep HC1.out (by simp)); (try (have HK : Hid (Reads w1 (.slice (some ⟨wr.heap.size, 0, none⟩) 1 1) [18]) := ((Reads.new (w := wr) (e := 5) [18] rfl rfl rfl (by decide)).keep (Chg.drew [] _) (by simp)).keep hc' (by simp))); clear ho)
                | (go_at_call 20; refine (Unpack_any _ _ b _ (HR11.out.keep (by first | exact Chg.refl [] _ | exact Chg.alloc [] _ _) (by simp))).mono ?_; rintro e w2 ⟨o1, rfl, ho, hc'⟩; have HC2 : Hid (Chg [] w1 w2) := (by first | exact hc' | exact (Chg.alloc [] _ _).trans hc'); have HO1 : Hid (Own1 w2 wr.heap.size o1 (unpackS b (1 + n % 16)).length) := ⟨_, own_base ho (by have := HC1.out.size; simp; omega)⟩; obtain ⟨oa1, oc1, rfl⟩ := HO1.out.shape; have HO0 := hid (HO0.out.keep HC2.out); have HR12 := hid (HR11.out.keep HC2.out (by simp)); (try (have HK := hid (HK.out.keep hc' (by simp)))); (try (have HK : Hid (Reads w2 (.slice (some ⟨w1.heap.size, 0, none⟩) 1 1) [18]) := (Reads.new (w := w1) (e := 5) [18] rfl rfl rfl (by decide)).keep hc' (by simp))); clear ho)
                | (go_at_call 22; refine (Offset_any _ _ _ b [18] (HR13.out.keep (by first | exact Chg.refl [] _ | exact Chg.alloc [] _ _) (by simp)) (by first | exact HK.out | exact Reads.new (e := 5) [18] rfl rfl rfl (by decide))).mono ?_; rintro e w4 ⟨o3, rfl, ho, hc'⟩; have HC4 : Hid (Chg [] w3 w4) := (by first | exact hc' | exact (Chg.alloc [] _ _).trans hc'); have HO3 : Hid (Own1 w4 wr.heap.size o3 (offS b [18]).length) := ⟨_, own_base ho (by have := HC1.out.size; have := HC2.out.size; have := HC3.out.size; simp; omega)⟩; obtain ⟨oa3, oc3, rfl⟩ := HO3.out.shape; have HO0 := hid (HO0.out.keep HC4.out); have HO1 := hid (HO1.out.keep HC4.out); have HO2 := hid (HO2.out.keep HC4.out); clear ho)
                | (go_at_call 22; refine (Offset_any _ _ _ b b (HR12.out.keep (by first | exact Chg.refl [] _ | exact Chg.alloc [] _ _) (by simp)) (HR12.out.keep (by first | exact Chg.refl [] _ | exact Chg.alloc [] _ _) (by simp))).mono ?_; rintro e w3 ⟨o2, rfl, ho, hc'⟩; have HC3 : Hid (Chg [] w2 w3) := (by first | exact hc' | exact (Chg.alloc [] _ _).trans hc'); have HO2 : Hid (Own1 w3 wr.heap.size o2 (offS b b).length) := ⟨_, own_base ho (by have := HC1.out.size; have := HC2.out.size; simp; omega)⟩; obtain ⟨oa2, oc2, rfl⟩ := HO2.out.shape; have HO0 := hid (HO0.out.keep HC3.out); have HO1 := hid (HO1.out.keep HC3.out); have HR13 := hid (HR12.out.keep HC3.out (by simp)); (try (have HK := hid (HK.out.keep hc' (by simp)))); (try (have HK : Hid (Reads w3 (.slice (some ⟨w2.heap.size, 0, none⟩) 1 1) [18]) := (Reads.new (w := w2) (e := 5) [18] rfl rfl rfl (by decide)).keep hc' (by simp))); clear ho))
            all_goals go_wp2_with (fail)
            all_goals go_meet
            all_goals exact ⟨_, _, _, _, _, _, _, _, rfl, rfl, HO0.out, HO1.out, HO2.out, HO3.out, packS_len _ _, unpackS_len _ _, offS_len _ _, offS_len _ _, ((HC1.out.trans HC2.out).trans HC3.out).trans HC4.out⟩
          case rest =>
            obtain ⟨o0, o1, o2, o3, n0, n1, n2, n3, rfl, rfl, p0, p1, p2, p3, b0, b1, b2, b3, hcn⟩ := hcut
            obtain ⟨wo, rfl⟩ : ∃ wo : World, wo = wr := ⟨_, rfl⟩
            obtain ⟨B, hB⟩ : ∃ B, wo.heap.size = B := ⟨_, rfl⟩
            rw [hB] at p0 p1 p2 p3
            have HB := hid hB
            clear hB
            have i0 : ∀ (a b c d : Value) (W : World), (Instr.index 45 (.agg #[a, b, c, d]) (.int .i64 0)).run Try.prog W = .ok a W := fun _ _ _ _ _ => by kernel_rfl
            have i1 : ∀ (a b c d : Value) (W : World), (Instr.index 45 (.agg #[a, b, c, d]) (.int .i64 1)).run Try.prog W = .ok b W := fun _ _ _ _ _ => by kernel_rfl
            have i2 : ∀ (a b c d : Value) (W : World), (Instr.index 45 (.agg #[a, b, c, d]) (.int .i64 2)).run Try.prog W = .ok c W := fun _ _ _ _ _ => by kernel_rfl
            have i3 : ∀ (a b c d : Value) (W : World), (Instr.index 45 (.agg #[a, b, c, d]) (.int .i64 3)).run Try.prog W = .ok d W := fun _ _ _ _ _ => by kernel_rfl
            go_wp2_with (fail)
            go_loopw [59] (fun i wx => ∃ q : Nat, q ≤ 4 ∧ i = .int .i64 q ∧ Own1 wx B o0 n0 ∧ Own1 wx B o1 n1 ∧ Own1 wx B o2 n2 ∧ Own1 wx B o3 n3 ∧ Chg [] wo wx) (fun i _ => 4 - (intOf i).toNat)
            case atStart => exact ⟨0, by omega, rfl, p0, p1, p2, p3, hcn⟩
            case round =>
              clear p0 p1 p2 p3 hcn
              obtain ⟨q, hq, rfl, p0, p1, p2, p3, hcq⟩ := hrel
              by_cases hlq : q < 4
              · have hq4 : q = 0 ∨ q = 1 ∨ q = 2 ∨ q = 3 := by omega
                clear hlq hq
                rcases hq4 with rfl | rfl | rfl | rfl
                · obtain ⟨qa, qc, hsh⟩ := p0.shape
                  subst hsh
                  go_wp2_with (fail)
                  go_loopw [64] (fun i wx => ∃ s : Nat, s ≤ n0 ∧ i = .int .i64 s ∧ Own1 wx B (.slice qa n0 qc) n0 ∧ Own1 wx B o1 n1 ∧ Own1 wx B o2 n2 ∧ Own1 wx B o3 n3 ∧ Chg [] wo wx) (fun i _ => n0 - (intOf i).toNat)
                  case atStart => exact ⟨0, by omega, rfl, p0, p1, p2, p3, hcq⟩
                  case round =>
                    clear p0 p1 p2 p3 hcq
                    obtain ⟨s, hs, rfl, p0, p1, p2, p3, hcq⟩ := hrel
                    by_cases hls : s < n0
                    · obtain ⟨gg, cc, x, hv', z1, z2, z3, z4, z5⟩ := p0.at s hls
                      cases hv'
                      have hx := x.toNat_lt
                      obtain ⟨y, hy⟩ := xor_eb x
                      have HY := hid hy
                      clear hy
                      go_wp2_with (fail)
                      rw [HY.out]
                      go_roundw
                      case rel => exact ⟨s + 1, by omega, by go_num, p0.write gg s y, p1.write gg s y, p2.write gg s y, p3.write gg s y, hcq.then (Chg.setCell (L := [gg]) _ (.inl (by simp)) _) (fun i hi hlt => by simp at hi; have := HB.out; omega)⟩
                      case measure => simp [intOf]; omega
                    · obtain rfl : s = n0 := by omega
                      go_wp2_with (fail)
                      go_roundw
                      case rel => exact ⟨1, by omega, by go_num, p0, p1, p2, p3, hcq⟩
                      case measure => simp [intOf]
                · obtain ⟨qa, qc, hsh⟩ := p1.shape
                  subst hsh
                  go_wp2_with (fail)
                  go_loopw [64] (fun i wx => ∃ s : Nat, s ≤ n1 ∧ i = .int .i64 s ∧ Own1 wx B o0 n0 ∧ Own1 wx B (.slice qa n1 qc) n1 ∧ Own1 wx B o2 n2 ∧ Own1 wx B o3 n3 ∧ Chg [] wo wx) (fun i _ => n1 - (intOf i).toNat)
                  case atStart => exact ⟨0, by omega, rfl, p0, p1, p2, p3, hcq⟩
                  case round =>
                    clear p0 p1 p2 p3 hcq
                    obtain ⟨s, hs, rfl, p0, p1, p2, p3, hcq⟩ := hrel
                    by_cases hls : s < n1
                    · obtain ⟨gg, cc, x, hv', z1, z2, z3, z4, z5⟩ := p1.at s hls
                      cases hv'
                      have hx := x.toNat_lt
                      obtain ⟨y, hy⟩ := xor_eb x
                      have HY := hid hy
                      clear hy
                      go_wp2_with (fail)
                      rw [HY.out]
                      go_roundw
                      case rel => exact ⟨s + 1, by omega, by go_num, p0.write gg s y, p1.write gg s y, p2.write gg s y, p3.write gg s y, hcq.then (Chg.setCell (L := [gg]) _ (.inl (by simp)) _) (fun i hi hlt => by simp at hi; have := HB.out; omega)⟩
                      case measure => simp [intOf]; omega
                    · obtain rfl : s = n1 := by omega
                      go_wp2_with (fail)
                      go_roundw
                      case rel => exact ⟨2, by omega, by go_num, p0, p1, p2, p3, hcq⟩
                      case measure => simp [intOf]
                · obtain ⟨qa, qc, hsh⟩ := p2.shape
                  subst hsh
                  go_wp2_with (fail)
                  go_loopw [64] (fun i wx => ∃ s : Nat, s ≤ n2 ∧ i = .int .i64 s ∧ Own1 wx B o0 n0 ∧ Own1 wx B o1 n1 ∧ Own1 wx B (.slice qa n2 qc) n2 ∧ Own1 wx B o3 n3 ∧ Chg [] wo wx) (fun i _ => n2 - (intOf i).toNat)
                  case atStart => exact ⟨0, by omega, rfl, p0, p1, p2, p3, hcq⟩
                  case round =>
                    clear p0 p1 p2 p3 hcq
                    obtain ⟨s, hs, rfl, p0, p1, p2, p3, hcq⟩ := hrel
                    by_cases hls : s < n2
                    · obtain ⟨gg, cc, x, hv', z1, z2, z3, z4, z5⟩ := p2.at s hls
                      cases hv'
                      have hx := x.toNat_lt
                      obtain ⟨y, hy⟩ := xor_eb x
                      have HY := hid hy
                      clear hy
                      go_wp2_with (fail)
                      rw [HY.out]
                      go_roundw
                      case rel => exact ⟨s + 1, by omega, by go_num, p0.write gg s y, p1.write gg s y, p2.write gg s y, p3.write gg s y, hcq.then (Chg.setCell (L := [gg]) _ (.inl (by simp)) _) (fun i hi hlt => by simp at hi; have := HB.out; omega)⟩
                      case measure => simp [intOf]; omega
                    · obtain rfl : s = n2 := by omega
                      go_wp2_with (fail)
                      go_roundw
                      case rel => exact ⟨3, by omega, by go_num, p0, p1, p2, p3, hcq⟩
                      case measure => simp [intOf]
                · obtain ⟨qa, qc, hsh⟩ := p3.shape
                  subst hsh
                  go_wp2_with (fail)
                  go_loopw [64] (fun i wx => ∃ s : Nat, s ≤ n3 ∧ i = .int .i64 s ∧ Own1 wx B o0 n0 ∧ Own1 wx B o1 n1 ∧ Own1 wx B o2 n2 ∧ Own1 wx B (.slice qa n3 qc) n3 ∧ Chg [] wo wx) (fun i _ => n3 - (intOf i).toNat)
                  case atStart => exact ⟨0, by omega, rfl, p0, p1, p2, p3, hcq⟩
                  case round =>
                    clear p0 p1 p2 p3 hcq
                    obtain ⟨s, hs, rfl, p0, p1, p2, p3, hcq⟩ := hrel
                    by_cases hls : s < n3
                    · obtain ⟨gg, cc, x, hv', z1, z2, z3, z4, z5⟩ := p3.at s hls
                      cases hv'
                      have hx := x.toNat_lt
                      obtain ⟨y, hy⟩ := xor_eb x
                      have HY := hid hy
                      clear hy
                      go_wp2_with (fail)
                      rw [HY.out]
                      go_roundw
                      case rel => exact ⟨s + 1, by omega, by go_num, p0.write gg s y, p1.write gg s y, p2.write gg s y, p3.write gg s y, hcq.then (Chg.setCell (L := [gg]) _ (.inl (by simp)) _) (fun i hi hlt => by simp at hi; have := HB.out; omega)⟩
                      case measure => simp [intOf]; omega
                    · obtain rfl : s = n3 := by omega
                      go_wp2_with (fail)
                      go_roundw
                      case rel => exact ⟨4, by omega, by go_num, p0, p1, p2, p3, hcq⟩
                      case measure => simp [intOf]
              · obtain rfl : q = 4 := by omega
                clear p0 p1 p2 p3 i0 i1 i2 i3
                have HCX := hid (HC10.out.trans hcq)
                have hr := HR10.out.keep hcq (by simp)
                have HRX := hid hr
                have hz0 : (0 : Int) ≤ (L : Int) := by omega
                have hz3 : (L : Int) ≤ (cap : Int) := by omega
                clear hcq hr
                go_wp2_with (fail)
                refine Calls.mono (Decode_any _ _ _ HRX.out) ?_
                rintro e w5 ⟨rfl, hc5⟩
                have HC5 := hid (HCX.out.trans hc5)
                have HR5 := hid (HRX.out.keep hc5 (by simp))
                have HA5 := hid (HRI.out.keep HC5.out (by simp))
                have HI5 := hid (HIN.out.keep HC5.out (by simp))
                clear hc5
                go_wp2_with (fail)
                refine Calls.mono (same_yes _ _ _ _ HR5.out HA5.out) ?_
                rintro e w6 ⟨rfl, hc6⟩
                have HC6 := hid (HC5.out.trans hc6)
                have hI6 := HI5.out.keep hc6 (by simp)
                rcases hI6.parts (show (b ++ [170, 187]).length = L + 2 by rw [List.length_append, HK.out]; rfl) with ⟨_, h0, _⟩ | ⟨_, _, _, hv, _, _, _, hcl⟩
                · omega
                cases hv
                have c0 := hcl.out L (by omega)
                have c1 := hcl.out (L + 1) (by omega)
                rw [show bN (b ++ [170, 187]) L = 170 from by unfold bN; rw [List.getD_eq_getElem?_getD, List.getElem?_append_right (by rw [HK.out]; omega), HK.out, Nat.sub_self]; rfl, Nat.zero_add] at c0
                rw [show bN (b ++ [170, 187]) (L + 1) = 187 from by unfold bN; rw [List.getD_eq_getElem?_getD, List.getElem?_append_right (by rw [HK.out]; omega), HK.out, show L + 1 - L = 1 from by omega]; rfl, Nat.zero_add] at c1
                clear hcl hI6 hc6
                go_wp2_with (fail)
                go_roundw
                case rel => exact ⟨j + 1, by omega, by go_num, HC6.out⟩
                case measure => simp [intOf]; omega
        · obtain rfl : j = 2 := by omega
          go_wp2_with (fail)
          go_returns
          exact ⟨rfl, (HC.out.trans HCI.out).trans hc⟩

theorem PackedOwn_walk (a0 : Option Addr) (len0 cap0 : Nat) (z0 : List Int) (a1 : Int) (w : World) (w0 : IsRow .u8 w a0 len0 cap0 z0) (w1 : (Lit.int .u8 a1).wf = true) (s0 : ∀ x, a0 = some x → x.spot = none) :
    Calls Try.prog 9 #[.slice a0 len0 cap0, .int .u8 a1] w fun e w' => e = .returned (.bool true) ∧ Below w.heap.size w w' := by
  obtain ⟨b, hb⟩ := Reads.ofRow w0 s0
  obtain ⟨h1, h2⟩ := u8_range w1
  refine (pown_in w _ b a1 h1 h2 hb ?_).mono fun e w' ⟨he, hc⟩ => ⟨he, hc.nil_below⟩
  rcases w0 with ⟨rfl, rfl, rfl, _⟩ | ⟨⟨bb, off, spot⟩, rfl, _⟩
  · exact .inl rfl
  · have := s0 _ rfl
    simp only at this
    subst this
    exact .inr ⟨bb, off, len0, cap0, rfl⟩

end Go.Proofs.Ytmmhokcdchhciaa
