import Derived.Test.YtldkmclfhjcicaaGreatDoorBr0
import Derived.Test.YtldkmclfhjcicaaGreatDoorRFind
import Derived.Test.YtldkmclfhjcicaaGreatDoorCAdd
import Derived.Test.YtldkmclfhjcicaaGreatDoorCDisk
import Derived.Test.YtldkmclfhjcicaaGreatDoorCEnc
/- Contracts of the catalog told as what the value machine calls. -/
namespace Go.Proofs.YtldkmclfhjcicaaGreatDoor
open Go.RowKit
set_option linter.unusedVariables false
set_option linter.unusedSimpArgs false
section
variable {M : Nat → Nat → Prop} {w w' : World}
theorem cat_rep {B : Nat} {ue ug : Value} {c : Cat} (h : OwC w' B ue ug c) (hM : ∀ b p, M b p → b < B) : Rep (S0 M w') (catV c) (.agg #[ue, ug]) := by
  have h1 := own_rep (rows := c.es.map entC) h.1 hM (by simp) (ents_row _) (ents_clean _) (cE_one _) (ents_repL _ _)
  have h2 := own_rep (rows := c.gs.map grpC) h.2 hM (by simp) (grps_row _) (grps_clean _) (cG_one _) (grps_repL _ _)
  refine ⟨[ue, ug], rfl, ?_, _, _, rfl, h1, _, _, rfl, h2, rfl⟩
  intro u hu
  rcases List.mem_cons.1 hu with rfl | hu
  · exact Rep.oneCell (x := .sl 4 (c.es.map entC)) rfl h1
  · rw [List.mem_singleton] at hu; subst hu
    exact Rep.oneCell (x := .sl 2 (c.gs.map grpC)) rfl h2
end
theorem Name_spec (s : Bs) : Spec Tryz.prog 20 [.str s] (.bool (nameOk s)) :=
  ⟨⟨_, Tryz.func20, rfl, by decide⟩, rfl, fun M w vs hM h => by
    obtain ⟨u, rfl, rfl⟩ := repL1 h
    refine (Name_any ⟨s.toArray⟩ w).mono ?_
    rintro e w' ⟨rfl, hc⟩
    exact ⟨_, rfl, hc, rfl⟩⟩
theorem Generation_spec (s : Bs) (n : Int) : Spec Tryz.prog 21 [.str s, .int .i64 n] (.tup [.str (genS s n).1, .bool (genS s n).2]) :=
  ⟨⟨_, Tryz.func21, rfl, by decide⟩, rfl, fun M w vs hM h => by
    obtain ⟨u, v, rfl, rfl, rfl⟩ := repL2 h
    refine (Generation_any ⟨s.toArray⟩ n w).mono ?_
    rintro e w' ⟨rfl, hc⟩
    exact ⟨_, rfl, hc, tup2 rfl rfl⟩⟩
theorem number_spec (b s : Bs) (hb : b.length ≤ 1000000) : Spec Tryz.prog 65 [.str b, .str s] (.int .i64 (numS b s : Nat)) :=
  ⟨⟨_, Tryz.func65, rfl, by decide⟩, rfl, fun M w vs hM h => by
    obtain ⟨u, v, rfl, rfl, rfl⟩ := repL2 h
    refine (rnumber_any ⟨b.toArray⟩ ⟨s.toArray⟩ (by rw [vb_size]; exact hb) w).mono ?_
    rintro e w' ⟨rfl, rfl⟩
    exact ⟨_, rfl, Chg.refl _ _, rfl⟩⟩
theorem entry_spec (e : Ent) : Spec Tryz.prog 34 [entV e] (.bool (entOk e)) :=
  ⟨⟨_, Tryz.func34, rfl, by decide⟩, rfl, fun M w vs hM h => by
    obtain ⟨u, rfl, hu⟩ := repL1 h
    rw [rep_ent hu]
    refine (rentry_any ⟨e.name.toArray⟩ ⟨e.serial.toArray⟩ e.unit e.file w).mono ?_
    rintro e' w' ⟨rfl, hc⟩
    exact ⟨_, rfl, hc, rfl⟩⟩
theorem group_spec (g : Grp) : Spec Tryz.prog 35 [.agg (grpC g)] (.bool (grpOk g)) :=
  ⟨⟨_, Tryz.func35, rfl, by decide⟩, rfl, fun M w vs hM h => by
    obtain ⟨u, rfl, hu⟩ := repL1 h
    obtain ⟨cs, rfl, _, _, _, rfl, rfl, _, _, rfl, rfl, h3⟩ := hu
    cases h3
    refine (rgroup_any ⟨g.base.toArray⟩ g.limit w).mono ?_
    rintro e' w' ⟨rfl, hc⟩
    exact ⟨_, rfl, hc, rfl⟩⟩
theorem find_spec (c : Cat) (s : Bs) (hM1 : c.es.length ≤ 1000000) : Spec Tryz.prog 36 [catV c, .str s] (.int .i64 (fIdx (namesS c.es) s)) :=
  ⟨⟨_, Tryz.func36, rfl, by decide⟩, rfl, fun M w vs hM h => by
    obtain ⟨u, v, rfl, hu, rfl⟩ := repL2 h
    obtain ⟨ve, vg, rfl, hc⟩ := rep_cat hu
    refine (rfind_any w ve vg c hc ⟨s.toArray⟩ hM1).mono ?_
    rintro e' w' ⟨rfl, hc⟩
    exact ⟨_, rfl, hc, rfl⟩⟩
theorem base_spec (c : Cat) (s : Bs) (hM1 : c.gs.length ≤ 1000000) : Spec Tryz.prog 63 [catV c, .str s] (.int .i64 (fIdx (basesS c.gs) s)) :=
  ⟨⟨_, Tryz.func63, rfl, by decide⟩, rfl, fun M w vs hM h => by
    obtain ⟨u, v, rfl, hu, rfl⟩ := repL2 h
    obtain ⟨ve, vg, rfl, hc⟩ := rep_cat hu
    refine (rbase_any w ve vg c hc ⟨s.toArray⟩ hM1).mono ?_
    rintro e' w' ⟨rfl, hc⟩
    exact ⟨_, rfl, hc, rfl⟩⟩
theorem numbers_spec (c : Cat) (s : Bs) (hM1 : c.es.length ≤ 1000000) (hs : s.length ≤ 1000000) : Spec Tryz.prog 37 [catV c, .str s] (intsV (numsS c.es s)) :=
  ⟨⟨_, Tryz.func37, rfl, by decide⟩, rfl, fun M w vs hM h => by
    obtain ⟨u, v, rfl, hu, rfl⟩ := repL2 h
    obtain ⟨ve, vg, rfl, hc⟩ := rep_cat hu
    refine (rnumbers_any w ve vg c hc hM1 ⟨s.toArray⟩ (by rw [vb_size]; exact hs)).mono ?_
    rintro e' w' ⟨u, rfl, hown, hc⟩
    exact ⟨_, rfl, hc, own_rep (rows := (numsS c.es s).map fun (n : Nat) => [V.int .i64 (n : Int)]) hown hM (by simp) (fun r hr => by obtain ⟨n, _, rfl⟩ := List.mem_map.1 hr; rfl) (fun r hr => by obtain ⟨n, _, rfl⟩ := List.mem_map.1 hr; rfl)
      (fun q hq => by obtain ⟨n, _, rfl⟩ := List.mem_map.1 hq; rfl) (ints_repL _ _)⟩⟩
theorem Add_spec (c : Cat) (e : Ent) : Spec Tryz.prog 23 [catV c, entV e] (.tup [catV (addC c e).1, entsV (addC c e).2.1, .int .i64 (addC c e).2.2]) :=
  ⟨⟨_, Tryz.func23, rfl, by decide⟩, rfl, fun M w vs hM h => by
    obtain ⟨u, v, rfl, hu, hv⟩ := repL2 h
    obtain ⟨ve, vg, rfl, hc⟩ := rep_cat hu
    rw [rep_ent hv]
    refine (Add_any w ve vg c hc ⟨e.name.toArray⟩ ⟨e.serial.toArray⟩ e.unit e.file).mono ?_
    rintro e' w' ⟨ue, ug, ur, rfl, ho, hr, hc⟩
    have h0 : (⟨(⟨e.name.toArray⟩ : ByteArray).data.toList, e.unit, (⟨e.serial.toArray⟩ : ByteArray).data.toList, e.file⟩ : Ent) = e := rfl
    rw [h0, addP_eq] at ho hr
    refine ⟨_, rfl, hc, ?_⟩
    rw [h0, addP_eq]
    exact tup3 (cat_rep ho hM) (ents_rep hr hM) rfl⟩
theorem Define_spec (c : Cat) (s : Bs) (l : Int) : Spec Tryz.prog 22 [catV c, .str s, .int .i64 l] (.tup [catV (defineC c s l).1, .int .i64 (defineC c s l).2]) :=
  ⟨⟨_, Tryz.func22, rfl, by decide⟩, rfl, fun M w vs hM h => by
    obtain ⟨u, v, t, rfl, hu, rfl, rfl⟩ := repL3 h
    obtain ⟨ve, vg, rfl, hc⟩ := rep_cat hu
    refine (Define_any w ve vg c hc ⟨s.toArray⟩ l).mono ?_
    rintro e' w' ⟨ue, ug, rfl, ho, hc⟩
    exact ⟨_, rfl, hc, tup2 (cat_rep ho hM) rfl⟩⟩
theorem Encode_spec (c : Cat) : Spec Tryz.prog 13 [catV c] (.tup [bytesV (if validC c then encC c else []), .int .i64 (if validC c then 0 else 1)]) :=
  ⟨⟨_, Tryz.func13, rfl, by decide⟩, rfl, fun M w vs hM h => by
    obtain ⟨u, rfl, hu⟩ := repL1 h
    obtain ⟨ve, vg, rfl, hc⟩ := rep_cat hu
    cases hv : validC c with
    | false =>
      refine (Encode_bad w ve vg c hc hv).mono ?_
      rintro e' w' ⟨rfl, hc⟩
      exact ⟨_, rfl, hc, tup2 (LeV.nil 1 _ _ rfl) rfl⟩
    | true =>
      refine (Encode_good w ve vg c hc hv).mono ?_
      rintro e' w' ⟨u, rfl, ho, hc⟩
      exact ⟨_, rfl, hc, tup2 (own_rep (rows := bytesR (encC c)) ho hM (by simp [bytesR]) (bytesR_row _) (bytesR_clean _) (fun q hq => by obtain ⟨n, _, rfl⟩ := List.mem_map.1 hq; rfl) (bytes_repL _ _)) rfl⟩⟩
theorem disk_spec (s : Bs) : Spec Tryz.prog 24 [.str s] (entV ⟨s, 5, [86, 49], 0⟩) :=
  ⟨⟨_, Tryz.func24, rfl, by decide⟩, rfl, fun M w vs hM h => by
    obtain ⟨u, rfl, rfl⟩ := repL1 h
    refine (disk_any w ⟨s.toArray⟩).mono ?_
    rintro e' w' ⟨rfl, hc⟩
    exact ⟨_, rfl, hc, ent_rep _ ⟨s, 5, [86, 49], 0⟩⟩⟩
theorem resolves_spec (c : Cat) (s t : Bs) (rel f : Int) (hs : s.length ≤ 1000000) (hr : -9223372036854775808 ≤ rel) : Spec Tryz.prog 25 [catV c, .str s, .int .i64 rel, .str t, .int .i64 f] (.bool (decide ((resolveC c s rel).1 = t) && decide ((resolveC c s rel).2 = f))) :=
  ⟨⟨_, Tryz.func25, rfl, by decide⟩, rfl, fun M w vs hM h => by
    obtain ⟨u, _, rfl, hu, _, _, rfl, rfl, _, _, rfl, rfl, _, _, rfl, rfl, _, _, rfl, rfl, h⟩ := h
    cases h
    obtain ⟨ve, vg, rfl, hc⟩ := rep_cat hu
    refine (resolves_any w ve vg c hc ⟨s.toArray⟩ ⟨t.toArray⟩ (by rw [vb_size]; exact hs) rel f hr).mono ?_
    rintro e' w' ⟨rfl, hc⟩
    exact ⟨_, rfl, hc, rfl⟩⟩
theorem Word_spec (n : Nat) (hn : n < 256) : Spec Tryz.prog 26 [.int .u8 (n : Int)] (.str (wordS n)) :=
  ⟨⟨_, Tryz.func26, rfl, by decide⟩, rfl, fun M w vs hM h => by
    obtain ⟨u, rfl, rfl⟩ := repL1 h
    refine (Word_any n hn w).mono ?_
    rintro e' w' ⟨rfl, hc⟩
    exact ⟨_, rfl, hc, rfl⟩⟩
end Go.Proofs.YtldkmclfhjcicaaGreatDoor
