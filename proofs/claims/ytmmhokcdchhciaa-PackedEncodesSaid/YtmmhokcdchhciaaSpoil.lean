/- Spoil, decodes, encodes of the laws of layer 3. -/
import Derived.Test.YtmmhokcdchhciaaRefDec
import Derived.Test.YtmmhokcdchhciaaRefZon
import Derived.Test.YtmmhokcdchhciaaApp3
import Derived.Test.YtmmhokcdchhciaaDecode
import Derived.Test.YtmmhokcdchhciaaZoned
import Derived.Deep.RegionWith
namespace Go.Proofs.Ytmmhokcdchhciaa
open Go.RowKit
set_option linter.unusedVariables false

theorem Spoil_any (w : World) (v : Value) (b : Go.Proofs.Ytmmhokcdchhciaa.Bs) (at_ x : Int) (hv : Reads w v b) (h1 : 1 ≤ b.length) (h2 : b.length ≤ 1000) (ha : 0 ≤ at_) (ha2 : at_ < 256) (hx : 0 ≤ x) (hx2 : x < 256) :
    Calls Try.prog 14 #[v, .int .u8 at_, .int .u8 x] w fun e w' =>
      ∃ r c, e = .returned r ∧ Reads w' r c ∧ c.length = b.length ∧ Chg [] w w' := by
  obtain ⟨L, hL⟩ : ∃ L, b.length = L := ⟨_, rfl⟩
  rw [hL] at h1 h2 ⊢
  rcases hv.parts hL with ⟨_, h0, _⟩ | ⟨bb, off, cap, rfl, _, hm4, hm5, _⟩
  · omega
  have HV := hid hv
  have HL := hid hL
  clear hv hL
  obtain ⟨i, hi⟩ : ∃ i : Nat, at_ % (L : Int) = (i : Int) := ⟨(at_ % (L : Int)).toNat, by have := Int.emod_nonneg at_ (b := (L : Int)) (by omega); omega⟩
  have hi2 : i < L := by have := Int.emod_lt_of_pos at_ (b := (L : Int)) (by omega); omega
  obtain ⟨y, hy⟩ : ∃ y : UInt8, Value.int .u8 x = eb y := ⟨UInt8.ofNat x.toNat, by rw [eb, toNat_ofNat (by omega)]; congr 1; omega⟩
  have HY := hid hy
  clear hy
  have hown : (w.alloc (.cells #[] 5)).ownsRow w.heap.size 5 1 (.slice (some ⟨w.heap.size, 0, none⟩) 0 0) 0 [] := own_made0 w _
  have HO := hid hown
  clear hown
  go_enter Try.func14, Try.ntmps14
  go_wp2_with (first
    | (at_builtin; refine appendR rfl _ _ 22 rfl w.heap.size 5 1 (.int .u8 0) Try.underlying22 info_u8 rfl (by decide) b L bb off cap HL.out (HV.out.keep (Chg.alloc [] _ _) (by simp)) HO.out rfl rfl (by omega) (by simp) ?_; intro v' w' ho' hc'; have HO2 := hid ho'; have HC2 := hid hc'; clear ho' hc'; obtain ⟨g, gc, u, hv', g1, g2, g3, g4, g5, g6, g7, g8⟩ := own_set HO2.out i (by omega); rw [hv'] at HO2; subst hv'))
  rw [HY.out]
  obtain ⟨q1, q2⟩ := g8.out (eb y)
  go_returns
  refine ⟨_, b.set i y, rfl, Reads.of_own (base := w.heap.size) (e := 5) ?_, by rw [List.length_set, HL.out], ((Chg.alloc _ _ _).then HC2.out ?_).then q2 ?_⟩
  · have h9 : ([] ++ b.map eb).set i (eb y) = (b.set i y).map eb := by rw [List.nil_append, List.map_set]
    rw [h9] at q1
    rw [List.length_set, HL.out]
    simpa using q1
  · intro k hk hlt; simp [own, Value.ownBlock] at hk; omega
  · intro k hk hlt; simp at hk; omega

theorem decodes_yes (w : World) (v : Value) (b : Go.Proofs.Ytmmhokcdchhciaa.Bs) (hv : Reads w v b) :
    Calls Try.prog 13 #[v] w fun e w' => e = .returned (.bool true) ∧ Chg [] w w' := by
  have HV := hid hv
  clear hv
  generalize hR : decS b = R at *
  have HR := hid hR
  clear hR
  obtain ⟨⟨ng, dg⟩, ok⟩ := R
  go_enter Try.func13, Try.ntmps13
  go_wp2_with (first
    | (go_at_call 25; refine (Decode_any _ _ b HV.out).mono ?_; rintro e w2 ⟨rfl, hc⟩; rw [HR.out]; have HC := hid (hc.trans (Chg.alloc [] w2 (.cells #[.bool ng, .string ⟨dg.toArray⟩] 26))); have HB := hid (al_new (w := w2) (o := .cells #[.bool ng, .string ⟨dg.toArray⟩] 26) rfl); clear hc)
    | (go_at_call 37; refine (rDecode_any _ _ b (HV.out.keep HC.out (by simp))).mono ?_; rintro e w3 ⟨rfl, hc⟩; rw [HR.out]; have HC3 := hid ((HC.out.trans hc).trans (Chg.alloc [] w3 (.cells #[.bool ng, .string ⟨dg.toArray⟩] 26))); obtain ⟨c0, c1⟩ := two_cells (al_old (o := .cells #[.bool ng, .string ⟨dg.toArray⟩] 26) (hc.heap HB.out (by simp))); obtain ⟨c2, c3⟩ := two_cells (al_new (w := w3) (o := .cells #[.bool ng, .string ⟨dg.toArray⟩] 26) rfl); clear hc))
  go_returns
  exact ⟨by simp, HC3.out⟩

theorem Same_yes (w : World) (v u : Value) (xs : Bs) (h : Reads w v xs) (k : Reads w u xs) : Calls Try.prog 17 #[v, u] w fun e w' => e = .returned (.bool true) ∧ w = w' := by
  refine (Same_any w v u xs xs h k).mono ?_
  rintro e w' ⟨rfl, rfl⟩
  exact ⟨by simp, rfl⟩

set_option maxHeartbeats 1000000 in
theorem encodes_yes (w : World) (neg : Bool) (s : ByteArray) (n : Int) (hs : s.size ≤ maxLen) :
    Calls Try.prog 16 #[.agg #[.bool neg, .string s], .int .i64 n] w fun e w' => e = .returned (.bool true) ∧ Chg [] w w' := by
  obtain ⟨xs, b1, he⟩ : ∃ xs b1, encS neg s.data.toList n = (xs, b1) := ⟨_, _, rfl⟩
  obtain ⟨zs, b2, hz⟩ : ∃ zs b2, zonS neg s.data.toList n = (zs, b2) := ⟨_, _, rfl⟩
  have HE := hid he
  have HZ := hid hz
  clear he hz
  go_enter Try.func16, Try.ntmps16
  go_wp2_with (first
    | (go_at_call 24; refine (Encode_any _ neg s hs n).mono ?_; rw [HE.out]; rintro e w1 ⟨u1, rfl, ho, hc⟩; have HC1 := hid ((Chg.alloc [] w (.cells #[.bool neg, .string s] 26)).trans hc); have HU1 := hid (Reads.of_own ho); have HB1 := hid (hc.heap (al_new (w := w) (o := .cells #[.bool neg, .string s] 26) rfl) (by simp)); obtain ⟨c0, c1⟩ := two_cells HB1.out; clear ho hc)
    | (go_at_call 11; refine (rEncode_any _ neg s hs n).mono ?_; rw [HE.out]; rintro e w2 ⟨u2, rfl, ho, hc⟩; have HC2 := hid (HC1.out.trans hc); have HU2 := hid (Reads.of_own ho); have HU1 := hid (HU1.out.keep hc (by simp)); have HB2 := hid (hc.heap HB1.out (by simp)); clear c0 c1; obtain ⟨c0, c1⟩ := two_cells HB2.out; clear ho hc)
    | (go_at_call 27; refine (Zoned_any _ neg s hs n).mono ?_; rw [HZ.out]; rintro e w3 ⟨u3, rfl, ho, hc⟩; have HC3 := hid (HC2.out.trans hc); have HU3 := hid (Reads.of_own ho); have HU1 := hid (HU1.out.keep hc (by simp)); have HU2 := hid (HU2.out.keep hc (by simp)); have HB3 := hid (hc.heap HB2.out (by simp)); clear c0 c1; obtain ⟨c0, c1⟩ := two_cells HB3.out; clear ho hc)
    | (go_at_call 40; refine (rZoned_any _ neg s hs n).mono ?_; rw [HZ.out]; rintro e w4 ⟨u4, rfl, ho, hc⟩; have HC4 := hid (HC3.out.trans hc); have HU4 := hid (Reads.of_own ho); have HU1 := hid (HU1.out.keep hc (by simp)); have HU2 := hid (HU2.out.keep hc (by simp)); have HU3 := hid (HU3.out.keep hc (by simp)); have HB4 := hid (hc.heap HB3.out (by simp)); clear c0 c1; obtain ⟨c0, c1⟩ := two_cells HB4.out; clear ho hc))
  obtain ⟨vb, hvb⟩ : ∃ vb, validS s.data.toList = vb := ⟨_, rfl⟩
  have HVB := hid hvb
  clear hvb
  go_region_held3 (fun w' => w'.cell? ⟨w.heap.size, 0, none⟩ = some (.bool neg) ∧ w'.cell? ⟨w.heap.size, 1, none⟩ = some (.string s))
    (first
      | go_keep
      | (go_split_ands
         refine ⟨?_, ?_⟩ <;> exact hc'.cell (by assumption) (by simp)))
    (first
      | (go_at_call 29; refine (valid_any neg s hs _).mono ?_; rintro e w5 ⟨rfl, hc'⟩; rw [HVB.out]; have HC5 := hid ((HC4.out.trans (Chg.drew _ _)).trans hc'); have HU1 := hid ((HU1.out.keep (Chg.drew [] _) (by simp)).keep hc' (by simp)); have HU2 := hid ((HU2.out.keep (Chg.drew [] _) (by simp)).keep hc' (by simp)); have HU3 := hid ((HU3.out.keep (Chg.drew [] _) (by simp)).keep hc' (by simp)); have HU4 := hid ((HU4.out.keep (Chg.drew [] _) (by simp)).keep hc' (by simp)))
      | (go_at_call 31; refine (rvalid_any neg s hs _).mono ?_; rintro e w6 ⟨rfl, hc'⟩; rw [HVB.out]; have HC6 := hid (HC5.out.trans hc'); have HU1 := hid (HU1.out.keep hc' (by simp)); have HU2 := hid (HU2.out.keep hc' (by simp)); have HU3 := hid (HU3.out.keep hc' (by simp)); have HU4 := hid (HU4.out.keep hc' (by simp)))
      | (go_at_call 17; ((with_reducible refine (Same_yes _ _ _ xs HU1.out HU2.out).mono ?_)); rintro e w7 ⟨rfl, rfl⟩)
      | (go_at_call 17; ((with_reducible refine (Same_yes _ _ _ zs HU3.out HU4.out).mono ?_)); rintro e w7 ⟨rfl, rfl⟩))
  all_goals go_wp2_with (fail)
  all_goals go_returns
  all_goals exact ⟨rfl, HC6.out⟩

end Go.Proofs.Ytmmhokcdchhciaa
