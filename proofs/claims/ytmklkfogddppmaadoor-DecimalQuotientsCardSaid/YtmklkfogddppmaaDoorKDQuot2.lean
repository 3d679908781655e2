/- Plain laws of layer 4 for the statements without a reference: fields that are written and read again, sums as integers. -/
import Derived.Test.YtmklkfogddppmaaDoorKDWorks
import Derived.Test.YtmklkfogddppmaaDoorKDRefF
import Derived.Test.YtmklkfogddppmaaDoorKDBin
import Derived.Test.YtmklkfogddppmaaDoorKDRefJ
namespace Go.Proofs.YtmklkfogddppmaaDoor
open Go.Lib
set_option linter.unusedVariables false

theorem decDigits_inj {u v : Nat} (h : decDigits u = decDigits v) : u = v := by rw [← valT_dec u, ← valT_dec v, h]
/-- a number that fits its field is read again as it was -/
theorem fld_read (n : Nat) (neg : Bool) (v : Nat) (h1 : 1 ≤ n) (h2 : n ≤ 16) (hv : v < 10 ^ (2 * n - 1)) : fok (fldN n neg v) = true ∧ rn (fldN n neg v) = neg ∧ rv (fldN n neg v) = v := by
  have hl : (decDigits v).length ≤ 2 * n - 1 := (dec_len v _ (by omega)).2 hv
  have hvs : validS (decDigits v) = true := by
    refine valid_of _ (List.length_pos_iff.2 (dec_ne v)) (by omega) ?_ (dec_mem v)
    by_cases h : v = 0
    · subst h; left; rw [dec_small (by omega)]; simp
    · right
      have := dec_head v h
      intro e
      apply this
      cases hd : decDigits v with
      | nil => exact absurd hd (dec_ne v)
      | cons c t => rw [hd] at e; simpa using e
  have hf : fldN n neg v = fld n (sgn neg :: valsR (decDigits v)) := by
    unfold fldN
    refine fld_congr n _ _ fun i _ => ?_
    cases i with
    | zero => rfl
    | succ i => rw [List.getD_cons_succ, List.getD_cons_succ, digs_getD, dec_getD]
  have hd := decS_fld n neg (decDigits v) h1 h2 hvs hl
  rw [← hf] at hd
  have hok : fok (fldN n neg v) = true := by unfold fok; rw [hd]
  have ht := fok_true _ hok
  rw [hd] at ht
  have e1 : fneg (fldN n neg v) = neg := by
    have := congrArg (fun p => p.1.1) ht; exact this.symm
  have e2 : fv (fldN n neg v) = v := by
    have := congrArg (fun p => p.1.2) ht
    exact (decDigits_inj this).symm
  refine ⟨hok, ?_, ?_⟩
  · unfold rn; rw [hok, e1]; rfl
  · unfold rv; rw [hok, e2]; rfl
theorem fldN_length (n : Nat) (neg : Bool) (v : Nat) : (fldN n neg v).length = n := by simp [fldN, fld_length]
theorem okSize_of {n : Nat} (h1 : 1 ≤ n) (h2 : n ≤ 16) : okSize (n : Int) = true := by unfold okSize; simp; omega
theorem code_parts (a b : Bs) (h : codeS a b = 0) : fok a = true ∧ fok b = true := by
  unfold codeS at h
  split at h
  · split at h
    · rename_i h2; simpa using h2
    · cases h
  · cases h
theorem code_of (a b : Bs) (h1 : 1 ≤ a.length ∧ a.length ≤ 16) (h2 : 1 ≤ b.length ∧ b.length ≤ 16) (h3 : fok a = true) (h4 : fok b = true) : codeS a b = 0 := by
  unfold codeS; rw [okSize_of h1.1 h1.2, okSize_of h2.1 h2.2, h3, h4]; rfl

/-- a number with its sign -/
def sv (n : Bool) (v : Nat) : Int := if n then -(v : Int) else v
theorem addS_sv (n1 : Bool) (v1 : Nat) (n2 : Bool) (v2 : Nat) : sv (addS n1 v1 n2 v2).1 (addS n1 v1 n2 v2).2 = sv n1 v1 + sv n2 v2 := by
  unfold addS sv
  cases n1 <;> cases n2 <;> simp <;> (try split) <;> (try simp) <;> omega
theorem sv_abs (n : Bool) (v : Nat) : (sv n v).natAbs = v := by unfold sv; cases n <;> simp
theorem sv_not (n : Bool) (v : Nat) : sv (!n) v = - sv n v := by unfold sv; cases n <;> simp
theorem sv_norm (n : Bool) (v : Nat) : sv (n && decide (v ≠ 0)) v = sv n v := by
  unfold sv; by_cases h : v = 0
  · subst h; cases n <;> simp
  · cases n <;> simp [h]
theorem addS_abs (n1 : Bool) (v1 : Nat) (n2 : Bool) (v2 : Nat) : (addS n1 v1 n2 v2).2 = (sv n1 v1 + sv n2 v2).natAbs := by rw [← addS_sv, sv_abs]
theorem sumN_abs (a b : Bs) (f : Bool) : (sumN a b f).2 = (sv (rn a) (rv a) + (if f then -1 else 1) * sv (rn b) (rv b)).natAbs := by
  unfold sumN
  rw [addS_abs]
  cases f
  · simp
  · simp only [if_true, sv_not, Int.neg_one_mul]
theorem finC_sv (n : Bool) (v k : Nat) (h : ¬ 10 ^ (2 * k - 1) ≤ v) : finC n v k = if sv n v = 0 then 0 else if sv n v < 0 then 1 else 2 := by
  unfold finC sv
  rw [if_neg h]
  by_cases h0 : v = 0
  · subst h0; cases n <;> simp
  · rw [if_neg h0]
    cases n
    · simp [h0] <;> omega
    · simp [h0] <;> omega

/-- what an addition without an error gives -/
theorem addF_good (a b : Bs) (f : Bool) (h : (addF a b f).2.2 = 0) : codeS a b = 0 ∧ (sumN a b f).2 < 10 ^ (2 * a.length - 1) ∧ (addF a b f).1 = fldN a.length ((sumN a b f).1 && decide ((sumN a b f).2 ≠ 0)) (sumN a b f).2 ∧
    (addF a b f).2.1 = if sv (rn a) (rv a) + (if f then -1 else 1) * sv (rn b) (rv b) = 0 then 0 else if sv (rn a) (rv a) + (if f then -1 else 1) * sv (rn b) (rv b) < 0 then 1 else 2 := by
  unfold addF at h ⊢
  by_cases hc : codeS a b = 0
  · rw [if_pos hc] at h ⊢
    unfold finF at h ⊢
    simp only at h ⊢
    have hlt : ¬ 10 ^ (2 * a.length - 1) ≤ (sumN a b f).2 := by
      intro hle; unfold finO at h; rw [if_pos hle] at h; cases h
    refine ⟨hc, by omega, rfl, ?_⟩
    rw [finC_sv _ _ _ hlt]
    have : sv (sumN a b f).1 (sumN a b f).2 = sv (rn a) (rv a) + (if f then -1 else 1) * sv (rn b) (rv b) := by
      unfold sumN
      rw [addS_sv]
      cases f
      · simp
      · simp only [if_true, sv_not, Int.neg_one_mul]
    rw [this]
  · rw [if_neg hc] at h
    exact absurd h hc

theorem sumN_sv (a b : Bs) (f : Bool) : sv (sumN a b f).1 (sumN a b f).2 = sv (rn a) (rv a) + (if f then -1 else 1) * sv (rn b) (rv b) := by
  unfold sumN
  rw [addS_sv]
  cases f
  · simp
  · simp only [if_true, sv_not, Int.neg_one_mul]
theorem code_comm (a b : Bs) : codeS a b = codeS b a := by unfold codeS; rw [Bool.and_comm, Bool.and_comm (fok a)]

/-- fields of equal numbers compare as equal -/
theorem cmp_equal (a b : Bs) (hc : codeS a b = 0) (h : sv (rn a) (rv a) = sv (rn b) (rv b)) : cmpF a b = (0, 0) := by
  unfold cmpF
  rw [if_pos hc]
  have : (sumN a b true).2 = 0 := by rw [sumN_abs]; simp only [if_true]; omega
  unfold ccS
  rw [if_pos this]
theorem sum_field (a b : Bs) (f : Bool) (h : (addF a b f).2.2 = 0) : (addF a b f).1.length = a.length ∧ fok (addF a b f).1 = true ∧ sv (rn (addF a b f).1) (rv (addF a b f).1) = sv (rn a) (rv a) + (if f then -1 else 1) * sv (rn b) (rv b) := by
  obtain ⟨hc, hlt, hr, _⟩ := addF_good a b f h
  obtain ⟨l1, l2, _, _⟩ := code_len a b hc
  rw [hr]
  obtain ⟨r1, r2, r3⟩ := fld_read a.length ((sumN a b f).1 && decide ((sumN a b f).2 ≠ 0)) (sumN a b f).2 l1 l2 hlt
  refine ⟨fldN_length _ _ _, r1, ?_⟩
  rw [r2, r3, sv_norm, sumN_sv]
theorem comm_cc (a b : Bs) (h1 : (addF a b false).2.2 = 0) (h2 : (addF b a false).2.2 = 0) : (addF a b false).2.1 = (addF b a false).2.1 := by
  rw [(addF_good a b false h1).2.2.2, (addF_good b a false h2).2.2.2, Int.add_comm]
  simp [Int.add_comm]
theorem addF_code (a b : Bs) (f : Bool) (hc : codeS a b = 0) (hlt : (sumN a b f).2 < 10 ^ (2 * a.length - 1)) : (addF a b f).2.2 = 0 := by
  unfold addF
  rw [if_pos hc]
  unfold finF finO
  simp only
  rw [if_neg (by omega)]
theorem undo_sub (a b : Bs) (h : (addF a b false).2.2 = 0) : (addF (addF a b false).1 b true).2.2 = 0 ∧ cmpF (addF (addF a b false).1 b true).1 a = (0, 0) := by
  obtain ⟨s1, s2, s3⟩ := sum_field a b false h
  obtain ⟨hc, _⟩ := addF_good a b false h
  obtain ⟨l1, l2, l3, l4⟩ := code_len a b hc
  obtain ⟨f1, f2⟩ := code_parts a b hc
  generalize (addF a b false).1 = r at *
  have hc2 : codeS r b = 0 := code_of r b (by omega) (by omega) s2 f2
  have hsum : sv (rn r) (rv r) + (if true = true then -1 else 1) * sv (rn b) (rv b) = sv (rn a) (rv a) := by
    rw [s3]; simp only [if_true, Bool.false_eq_true, if_false]; omega
  have hlt : (sumN r b true).2 < 10 ^ (2 * r.length - 1) := by
    rw [sumN_abs, hsum, sv_abs, s1]; exact rv_lt_len a l1
  have hz := addF_code r b true hc2 hlt
  refine ⟨hz, ?_⟩
  obtain ⟨t1, t2, t3⟩ := sum_field r b true hz
  refine cmp_equal _ _ (code_of _ _ (by omega) (by omega) t2 f1) ?_
  rw [t3, hsum]

/-- a word and its field -/
theorem bin_back (v : Nat) (hv : v < 4294967296) : toF (fromF v) = ((v : Int), 0) := by
  have hb : -2147483648 ≤ sint v ∧ sint v ≤ 2147483647 ∧ (sint v = v ∨ sint v = (v : Int) - 4294967296) := by unfold sint; split <;> omega
  obtain ⟨r1, r2, r3⟩ := fld_read 8 (decide (sint v < 0)) (sint v).natAbs (by omega) (by omega) (by omega)
  have hl : (fromF v).length = 8 := fldN_length _ _ _
  unfold toF
  rw [if_pos hl]
  unfold fromF
  rw [if_pos r1]
  have hfi : fint (fldN 8 (decide (sint v < 0)) (sint v).natAbs) = sint v := by
    unfold fint; rw [r2, r3]
    by_cases h : sint v < 0
    · simp [h]; omega
    · simp [h]; omega
  rw [hfi, if_neg (by omega), u32w]
  congr 1
  omega

end Go.Proofs.YtmklkfogddppmaaDoor

/- DecimalBinary and DecimalUndoes. -/
namespace Go.Proofs.YtmklkfogddppmaaDoor
open Go.RowKit Go.Shelf
set_option linter.unusedVariables false
set_option linter.unusedSimpArgs false

theorem equal_yes (w : World) (va vb : Value) (a b : Bs) (hva : Reads w va a) (hvb : Reads w vb b) (h : cmpF a b = (0, 0)) :
    Calls Tryd.prog 31 #[va, vb] w fun e w' => e = .returned (.bool true) ∧ Chg [] w w' := by
  have hq := Compare_any w va vb a b hva hvb
  rw [h] at hq
  clear hva hvb h
  go_enter Tryd.func31, Tryd.ntmps31
  go_wp2_with (fail)
  go_at_call 19
  refine Calls.mono hq ?_
  rintro e w2 ⟨rfl, hc⟩
  go_wp2_with (fail)
  go_returns
  exact ⟨rfl, hc⟩

set_option maxHeartbeats 1000000 in
theorem DecimalBinary_in (w : World) (v : Nat) (hv : v < 4294967296) (ht : Tab w) :
    Calls Tryd.prog 8 #[.int .u32 (v : Int)] w fun e w' => e = .returned (.bool true) ∧ Chg [] w w' := by
  have HB := hid (bin_back v hv)
  have HT := hid ht
  have hq := FromBinary_any w v hv ht
  have HL := hid (show (fromF v).length = 8 from fldN_length _ _ _)
  clear ht
  go_enter Tryd.func8, Tryd.ntmps8
  go_wp2_with (fail)
  go_at_call 29
  refine Calls.mono hq ?_
  rintro e w2 ⟨u, rfl, hO, hc⟩
  clear hq
  obtain ⟨ua, uc, rfl, -⟩ := own_slice hO
  rw [← HL.out] at hO
  have HU := hid (Reads.of_own hO)
  rw [HL.out] at HU
  clear hO
  have hq := ToBinary_any w2 _ _ HU.out
  rw [HB.out] at hq
  go_wp2_with (fail)
  go_at_call 27
  refine Calls.mono hq ?_
  rintro e w3 ⟨rfl, hc2⟩
  clear hq
  have hcc := hc.trans hc2
  have hq := works_yes w3 (HT.out.keep hcc)
  go_wp2_with (fail)
  go_at_call 16
  refine Calls.mono hq ?_
  rintro e w4 ⟨rfl, hc3⟩
  go_wp2_with (fail)
  go_returns
  exact ⟨rfl, hcc.trans hc3⟩

set_option maxHeartbeats 1000000 in
theorem DecimalUndoes_in (w : World) (va vb : Value) (a b : Bs) (hva : Reads w va a) (hvb : Reads w vb b) (ht : Tab w) :
    Calls Tryd.prog 9 #[va, vb] w fun e w' => e = .returned (.bool true) ∧ Chg [] w w' := by
  have HA := hid hva
  have HB := hid hvb
  have HT := hid ht
  have HC := hid (comm_cc a b)
  have HUN := hid (undo_sub a b)
  have HSF := hid (sum_field a b false)
  have h1 := fun W h1 h2 h3 => Add_any W va vb a b h1 h2 h3
  have h2 := fun W h1 h2 h3 => Add_any W vb va b a h1 h2 h3
  obtain ⟨x, hx⟩ : ∃ x, addF a b false = x := ⟨_, rfl⟩
  obtain ⟨y, hy⟩ : ∃ x, addF b a false = x := ⟨_, rfl⟩
  obtain ⟨xr, xc, xk⟩ := x
  obtain ⟨yr, yc, yk⟩ := y
  have hq := h1 w HA.out HB.out HT.out
  rw [hx] at hq HC HUN HSF
  have H2 := hid h2
  have HY := hid hy
  rw [hy] at HC
  have HX := hid hx
  clear h1 h2 hx hy hvb ht
  obtain ⟨pa, ca, rfl⟩ := hva.shape (L := a.length) rfl
  clear hva
  go_enter Tryd.func9, Tryd.ntmps9
  go_wp2_with (fail)
  go_at_call 21
  refine Calls.mono hq ?_
  rintro e w1 ⟨u1, rfl, hO, hc1⟩
  clear hq
  obtain ⟨ua, uc, rfl, -⟩ := own_slice hO
  have HU := hid (Reads.of_own hO)
  have hq := H2.out w1 (HB.out.keep1 hc1) (HA.out.keep1 hc1) (HT.out.keep hc1)
  rw [HY.out] at hq
  clear hO
  go_wp2_with (fail)
  go_at_call 21
  refine Calls.mono hq ?_
  rintro e w2 ⟨u2, rfl, hO, hc2⟩
  clear hq hO H2
  have hcc := hc1.trans hc2
  have HU2 := hid (HU.out.keep1 hc2)
  clear HU hc1 hc2
  by_cases hk : xk = 0
  · subst hk
    have hcy : yk = 0 → xc = yc := fun h => HC.out rfl h
    obtain ⟨s1, s2, -⟩ := HSF.out rfl
    obtain ⟨z1, z2⟩ := HUN.out rfl
    have HS1 := hid s1
    have hq := Sub_any w2 _ _ xr b HU2.out (HB.out.keep1 hcc) (HT.out.keep hcc)
    obtain ⟨z, hz⟩ : ∃ z, addF xr b true = z := ⟨_, rfl⟩
    try simp only at z1 z2 s1
    rw [hz] at hq z1 z2
    obtain ⟨zr, zc, zk⟩ := z
    try simp only at z1 z2
    subst z1
    have HZ2 := hid z2
    have HZ := hid hz
    clear HC HSF HUN z2 hz s2
    rw [s1]
    clear s1
    rw [HS1.out] at hq
    have hgo : yk ≠ 0 ∨ (yk = 0 ∧ xc = yc) := by by_cases h : yk = 0; exact .inr ⟨h, hcy h⟩; exact .inl h
    clear hcy
    rcases hgo with hgo | ⟨rfl, rfl⟩
    · have e0 : ((yk : Int) == 0) = false := beq_eq_false_iff_ne.2 hgo
      clear hgo
      go_wp2_with (fail)
      go_at_call 23
      refine Calls.mono hq ?_
      rintro e w3 ⟨u3, rfl, hO, hc3⟩
      clear hq
      have HU3 := hid (Reads.of_own hO)
      have hc4 := hcc.trans hc3
      have hq := equal_yes w3 _ _ zr a HU3.out (HA.out.keep1 hc4) HZ2.out
      clear hO
      go_wp2_with (fail)
      go_at_call 31
      refine Calls.mono hq ?_
      rintro e w4 ⟨rfl, hc5⟩
      clear hq
      have hc6 := hc4.trans hc5
      have hq := works_yes w4 (HT.out.keep hc6)
      go_wp2_with (fail)
      go_at_call 16
      refine Calls.mono hq ?_
      rintro e w5 ⟨rfl, hc7⟩
      go_wp2_with (fail)
      go_returns
      exact ⟨rfl, hc6.trans hc7⟩
    · go_wp2_with (fail)
      go_at_call 23
      refine Calls.mono hq ?_
      rintro e w3 ⟨u3, rfl, hO, hc3⟩
      clear hq
      have HU3 := hid (Reads.of_own hO)
      have hc4 := hcc.trans hc3
      have hq := equal_yes w3 _ _ zr a HU3.out (HA.out.keep1 hc4) HZ2.out
      clear hO
      go_wp2_with (fail)
      go_at_call 31
      refine Calls.mono hq ?_
      rintro e w4 ⟨rfl, hc5⟩
      clear hq
      have hc6 := hc4.trans hc5
      have hq := works_yes w4 (HT.out.keep hc6)
      go_wp2_with (fail)
      go_at_call 16
      refine Calls.mono hq ?_
      rintro e w5 ⟨rfl, hc7⟩
      go_wp2_with (fail)
      go_returns
      exact ⟨rfl, hc6.trans hc7⟩
  · have e0 : ((xk : Int) == 0) = false := beq_eq_false_iff_ne.2 hk
    have e1 : ((xk : Int) != 0) = true := by simp [hk]
    have hq := works_yes w2 (HT.out.keep hcc)
    clear hk HC HUN HSF
    go_wp2_with (fail)
    go_at_call 16
    refine Calls.mono hq ?_
    rintro e w5 ⟨rfl, hc7⟩
    go_wp2_with (fail)
    go_returns
    exact ⟨rfl, hcc.trans hc7⟩

end Go.Proofs.YtmklkfogddppmaaDoor

/- DecimalQuotients. -/
namespace Go.Proofs.YtmklkfogddppmaaDoor
open Go.RowKit Go.Shelf
set_option linter.unusedVariables false
set_option linter.unusedSimpArgs false

theorem bl_snoc : ∀ (x y : Bs) (c d : UInt8), x.length = y.length → Op.bytesLess (x ++ [c]) (y ++ [d]) = (Op.bytesLess x y || (x == y && decide (c < d)))
  | [], [], c, d, _ => by simp [Op.bytesLess]
  | [], _ :: _, _, _, h => by simp at h
  | _ :: _, [], _, _, h => by simp at h
  | a :: x, b :: y, c, d, h => by
    have ih := bl_snoc x y c d (by simpa using h)
    rw [List.cons_append, List.cons_append, Op.bytesLess, ih, Op.bytesLess]
    by_cases h1 : a < b
    · simp [h1]
    · by_cases h2 : a = b
      · subst h2; simp [h1]
      · have h3 : (a == b) = false := by simpa using h2
        simp [h1, h3]
theorem asc_lt (a b : Nat) (h : a < b) (hb : b < 10) : UInt8.ofNat (48 + a) < UInt8.ofNat (48 + b) := by
  rw [UInt8.lt_iff_toNat_lt, asc_toNat a (by omega), asc_toNat b hb]; omega
theorem dec_less (v : Nat) : ∀ u, u < v → (Lib.decDigits u).length = (Lib.decDigits v).length → Op.bytesLess (Lib.decDigits u) (Lib.decDigits v) = true := by
  induction v using Nat.strongRecOn with
  | ind v ih =>
    intro u hu hl
    by_cases hv : v < 10
    · rw [dec_small hv, dec_small (by omega)]
      have := asc_lt u v hu hv
      show (decide (_ < _) || _) = true
      rw [decide_eq_true this]; rfl
    · by_cases hu2 : u < 10
      · rw [dec_small hu2, dec_big hv] at hl
        have := List.length_pos_iff.2 (dec_ne (v / 10))
        rw [List.length_append, List.length_singleton, List.length_singleton] at hl; omega
      · have hl2 : (Lib.decDigits (u / 10)).length = (Lib.decDigits (v / 10)).length := by
          rw [dec_big hv, dec_big hu2] at hl; simpa using hl
        rw [dec_big hv, dec_big hu2, bl_snoc _ _ _ _ hl2]
        by_cases hq : u / 10 < v / 10
        · rw [ih (v / 10) (by omega) (u / 10) hq hl2]; rfl
        · have he : u / 10 = v / 10 := by omega
          have := asc_lt (u % 10) (v % 10) (by omega) (by omega)
          rw [he, decide_eq_true this]; simp
theorem dec_len_le {u v : Nat} (h : u < v) : (Lib.decDigits u).length ≤ (Lib.decDigits v).length := by
  have h1 := List.length_pos_iff.2 (dec_ne v)
  exact (dec_len u _ h1).2 (Nat.lt_trans h ((dec_len v _ h1).1 (Nat.le_refl _)))

set_option maxHeartbeats 1000000 in
theorem lessf_yes (w : World) (va vb : Value) (a b : Bs) (x y : Nat) (n1 n2 : Bool) (hva : Reads w va a) (hvb : Reads w vb b) (h1 : decS a = ((n1, Lib.decDigits x), true)) (h2 : decS b = ((n2, Lib.decDigits y), true)) (hxy : x < y) :
    Calls Tryd.prog 34 #[va, vb] w fun e w' => e = .returned (.bool true) ∧ Chg [] w w' := by
  have hq := rDecode_any w va a hva
  rw [h1] at hq
  have hq2 := fun W (hc : Chg [] w W) => rDecode_any W vb b (hvb.keep1 hc)
  rw [h2] at hq2
  have HQ2 := hid hq2
  have hle := dec_len_le hxy
  have hls := dec_less y x hxy
  obtain ⟨S, hS⟩ : ∃ S : ByteArray, S = ⟨(Lib.decDigits x).toArray⟩ := ⟨_, rfl⟩
  obtain ⟨T, hT⟩ : ∃ T : ByteArray, T = ⟨(Lib.decDigits y).toArray⟩ := ⟨_, rfl⟩
  have hs1 : S.size = (Lib.decDigits x).length := by rw [hS]; rfl
  have hs2 : T.size = (Lib.decDigits y).length := by rw [hT]; rfl
  have hl3 : S.size = T.size → Op.bytesLess S.toList T.toList = true := fun h => by
    rw [ByteArray.toList_eq, ByteArray.toList_eq, hS, hT]; exact hls (by omega)
  have hl4 : S.size ≤ T.size := by omega
  have hq' : Calls Tryd.prog 63 #[va] w fun e w' => e = .returned (.tuple #[.agg #[.bool n1, .string S], .bool true]) ∧ Chg [] w w' := by rw [hS]; exact hq
  have HQ3 : Hid (∀ W, Chg [] w W → Calls Tryd.prog 63 #[vb] W fun e w' => e = .returned (.tuple #[.agg #[.bool n2, .string T], .bool true]) ∧ Chg [] W w') := hid (by rw [hT]; exact HQ2.out)
  clear hq hq2 HQ2 hle hls hS hT hs1 hs2 hva hvb h1 h2 hxy
  have HL3 := hid hl3
  clear hl3
  go_enter Tryd.func34, Tryd.ntmps34
  go_upto_region 2 with (go_at_call 63; refine hq'.mono ?_; rintro e w2 ⟨rfl, hc⟩)
  clear hq'
  have HX := hid (heap_alloc_new w2 (.cells #[.bool n1, .string S] 70))
  have hc1 := hc.trans (Chg.alloc [] w2 (.cells #[.bool n1, .string S] 70))
  clear hc
  generalize w2.alloc (.cells #[.bool n1, .string S] 70) = W1 at *
  have hq := HQ3.out W1 hc1
  go_upto_region 3 with (go_at_call 63; refine hq.mono ?_; rintro e w3 ⟨rfl, hc⟩)
  clear hq
  have HX2 := hid (al_old (o := .cells #[.bool n2, .string T] 70) (hc.heap HX.out (by simp)))
  have HY2 := hid (heap_alloc_new w3 (.cells #[.bool n2, .string T] 70))
  have hc2 := (hc1.trans hc).trans (Chg.alloc [] w3 (.cells #[.bool n2, .string T] 70))
  clear hc hc1 HX
  generalize w3.alloc (.cells #[.bool n2, .string T] 70) = W3 at *
  obtain ⟨c0, c1⟩ := two_cells HX2.out
  obtain ⟨d0, d1⟩ := two_cells HY2.out
  by_cases hlt : (S.size : Int) < (T.size : Int)
  · go_wp2_with (fail)
    go_returns
    exact ⟨rfl, hc2⟩
  · have heq : S.size = T.size := by omega
    have hl5 := HL3.out heq
    have e0 : ((S.size : Int) == (T.size : Int)) = true := by rw [heq]; simp
    clear heq
    go_wp2_with (fail)
    go_returns
    exact ⟨rfl, hc2⟩

/-- a field with zeros ahead -/
theorem fld_pad (m n : Nat) (neg : Bool) (v : Nat) (h1 : 1 ≤ n) (hv : v < 10 ^ (2 * n - 1)) : fldN (m + n) neg v = List.replicate m 0 ++ fldN n neg v := by
  have hl : (sgn neg :: digs v).length ≤ 2 * n := by
    have := (digs_length v (2 * n - 1)).2 hv
    rw [List.length_cons]; omega
  show fld (m + n) (sgn neg :: digs v) = List.replicate m 0 ++ fld n (sgn neg :: digs v)
  refine List.ext_getElem (by rw [fld_length, List.length_append, List.length_replicate, fld_length]) fun i h1 h2 => ?_
  rw [fld_get]
  rcases Nat.lt_or_ge i m with hi | hi
  · rw [List.getElem_append_left (by simpa using hi), List.getElem_replicate, getD_ge _ _ (by omega), getD_ge _ _ (by omega)]; rfl
  · rw [List.getElem_append_right (by simpa using hi)]
    simp only [List.length_replicate]
    rw [fld_get]
    rw [show 2 * (m + n) - 1 - 2 * i = 2 * n - 1 - 2 * (i - m) from by omega, show 2 * (m + n) - 2 - 2 * i = 2 * n - 2 - 2 * (i - m) from by omega]

theorem divF_good (a b : Bs) (h : (divF a b).2 = 0) : codeM a b = 0 ∧ rv b ≠ 0 ∧ rv a / rv b < 10 ^ (2 * (a.length - b.length) - 1) ∧
    (divF a b).1 = fldN (a.length - b.length) (rn a != rn b) (rv a / rv b) ++ fldN b.length (rn a) (rv a % rv b) := by
  unfold divF at h ⊢
  by_cases hc : codeM a b = 0
  · rw [if_pos hc] at h ⊢
    by_cases hz : rv b = 0
    · rw [if_pos hz] at h; cases h
    · rw [if_neg hz] at h ⊢
      by_cases ho : 10 ^ (2 * (a.length - b.length) - 1) ≤ rv a / rv b
      · rw [if_pos ho] at h; cases h
      · rw [if_neg ho] at h ⊢
        exact ⟨hc, hz, by omega, rfl⟩
  · rw [if_neg hc] at h; exact absurd h hc
theorem divF_bad (a b : Bs) (h : (divF a b).2 ≠ 0) : (divF a b).1 = [] := by
  unfold divF at h ⊢
  by_cases hc : codeM a b = 0
  · rw [if_pos hc] at h ⊢
    by_cases hz : rv b = 0
    · rw [if_pos hz]
    · rw [if_neg hz] at h ⊢
      by_cases ho : 10 ^ (2 * (a.length - b.length) - 1) ≤ rv a / rv b
      · rw [if_pos ho]
      · rw [if_neg ho] at h; exact absurd rfl h
  · rw [if_neg hc]

/-- the quotient multiplied again, and the remainder added -/
theorem div_back (a b : Bs) (q r : Bs) (hq : q = fldN (a.length - b.length) (rn a != rn b) (rv a / rv b)) (hr : r = fldN b.length (rn a) (rv a % rv b)) (hc : codeM a b = 0) (hz : rv b ≠ 0) (hlt : rv a / rv b < 10 ^ (2 * (a.length - b.length) - 1)) :
    ∃ p s c, mulF (List.replicate b.length 0 ++ q) b = (p, 0) ∧ addF p r false = (s, c, 0) ∧ cmpF s a = (0, 0) ∧ decS r = ((rn a, Lib.decDigits (rv a % rv b)), true) ∧ decS b = ((rn b, Lib.decDigits (rv b)), true) ∧ rv a % rv b < rv b := by
  obtain ⟨k0, k1, k2⟩ := code_ops a b hc
  obtain ⟨l1, l2, l3, l4⟩ := code_len a b k0
  obtain ⟨f1, f2⟩ := code_parts a b k0
  have hrb := rv_lt_len b l3
  have hra := rv_lt_len a l1
  have hml := Nat.mod_lt (rv a) (Nat.pos_of_ne_zero hz)
  have hdm := Nat.div_add_mod (rv a) (rv b)
  obtain ⟨g1, g2, g3⟩ := fld_read b.length (rn a) (rv a % rv b) l3 l4 (by omega)
  have hpad : List.replicate b.length 0 ++ q = fldN a.length (rn a != rn b) (rv a / rv b) := by
    rw [hq, ← fld_pad _ _ _ _ (by omega) hlt, show b.length + (a.length - b.length) = a.length from by omega]
  have hqa : rv a / rv b < 10 ^ (2 * a.length - 1) := Nat.lt_of_le_of_lt (Nat.div_le_self _ _) hra
  obtain ⟨c1, c2, c3⟩ := fld_read a.length (rn a != rn b) (rv a / rv b) l1 l2 hqa
  have hlead : ∀ i, i < b.length → bN (List.replicate b.length 0 ++ q) i = 0 := fun i hi => by
    unfold bN
    rw [List.getD_eq_getElem?_getD, List.getElem?_append_left (by simpa using hi), List.getElem?_replicate, if_pos hi]; rfl
  rw [hpad] at hlead ⊢
  have hcl := fldN_length a.length (rn a != rn b) (rv a / rv b)
  generalize hcc : fldN a.length (rn a != rn b) (rv a / rv b) = cq at *
  have hcM : codeM cq b = 0 := by
    unfold codeM okOps
    rw [hcl, okSize_of l1 l2, okSize_of l3 l4, decide_eq_true k1, decide_eq_true k2]
    exact code_of cq b (by omega) (by omega) c1 f2
  have hmul : mulF cq b = (fldN a.length (rn a) (rv a / rv b * rv b), 0) := by
    unfold mulF
    rw [if_pos hcM, if_pos hlead, c2, c3, hcl]
    have : (((rn a != rn b) != rn b) : Bool) = rn a := by cases rn a <;> cases rn b <;> rfl
    rw [this]
  have hple : rv a / rv b * rv b ≤ rv a := Nat.div_mul_le_self _ _
  obtain ⟨p1, p2, p3⟩ := fld_read a.length (rn a) (rv a / rv b * rv b) l1 l2 (by omega)
  have hpl := fldN_length a.length (rn a) (rv a / rv b * rv b)
  generalize fldN a.length (rn a) (rv a / rv b * rv b) = p at *
  rw [← hr] at g1 g2 g3
  have hrl : r.length = b.length := by rw [hr]; exact fldN_length _ _ _
  have hcS : codeS p r = 0 := code_of p r (by omega) (by omega) p1 g1
  have hsum : sv (rn p) (rv p) + (if false = true then -1 else 1) * sv (rn r) (rv r) = sv (rn a) (rv a) := by
    rw [p2, p3, g2, g3]
    have e : (rv a : Int) = ((rv a / rv b * rv b : Nat) : Int) + ((rv a % rv b : Nat) : Int) := by rw [Nat.mul_comm]; omega
    unfold sv
    simp only [Bool.false_eq_true, if_false, Int.one_mul]
    split <;> omega
  have hz0 : (addF p r false).2.2 = 0 := addF_code p r false hcS (by rw [sumN_abs, hsum, sv_abs, hpl]; exact hra)
  obtain ⟨s1, s2, s3⟩ := sum_field p r false hz0
  refine ⟨p, (addF p r false).1, (addF p r false).2.1, hmul, by rw [← hz0], ?_, ?_, ?_, hml⟩
  · refine cmp_equal _ _ (code_of _ _ (by omega) (by omega) s2 f1) ?_
    rw [s3, hsum]
  · rw [fok_true r g1, (fok_rd r g1).1, (fok_rd r g1).2, g2, g3]
  · rw [fok_true b f2, (fok_rd b f2).1, (fok_rd b f2).2]

end Go.Proofs.YtmklkfogddppmaaDoor

/- DecimalQuotients: the walk. -/
namespace Go.Proofs.YtmklkfogddppmaaDoor
open Go.RowKit Go.Shelf
set_option linter.unusedVariables false
set_option linter.unusedSimpArgs false

theorem Reads.takeB {w : World} {bb off L cap : Nat} {xs : Bs} (h : Reads w (.slice (some ⟨bb, off, none⟩) L cap) xs) (k : Nat) (hk : k ≤ L) : Reads w (.slice (some ⟨bb, off, none⟩) k cap) (xs.take k) := by
  obtain ⟨a, c, hv, h1, h2, h3, h4⟩ := h
  injection hv with e1 e2 e3
  subst e1 e2 e3
  refine ⟨_, cap, by simp [Nat.min_eq_left hk], by simp; omega, h2, (fun e => by cases e), fun x hx => ⟨(h4 x hx).1, fun i hi => ?_⟩⟩
  rw [(h4 x hx).2 i (by simp at hi; omega)]; simp
theorem Reads.dropB {w : World} {bb off L cap : Nat} {xs : Bs} (h : Reads w (.slice (some ⟨bb, off, none⟩) L cap) xs) (k : Nat) (hk : k ≤ L) : Reads w (.slice (some ⟨bb, off + k, none⟩) (L - k) (cap - k)) (xs.drop k) := by
  obtain ⟨a, c, hv, h1, h2, h3, h4⟩ := h
  injection hv with e1 e2 e3
  subst e1 e2 e3
  refine ⟨some ⟨bb, off + k, none⟩, cap - k, by simp, by simp; omega, by omega, (fun e => by cases e), fun x hx => ?_⟩
  cases hx
  refine ⟨rfl, fun i hi => ?_⟩
  have := (h4 _ rfl).2 (k + i) (by simp at hi; omega)
  simp only at this ⊢
  rw [Nat.add_assoc, this]; simp

set_option maxRecDepth 100000 in
set_option maxHeartbeats 1000000 in
theorem DecimalQuotients_in (w : World) (va vb : Value) (a b : Bs) (hva : Reads w va a) (hvb : Reads w vb b) (ht : Tab w) :
    Calls Tryd.prog 11 #[va, vb] w fun e w' => e = .returned (.bool true) ∧ Chg [] w w' := by
  have HA := hid hva
  have HB := hid hvb
  have HT := hid ht
  have hq := Divide_any w va vb a b hva hvb ht
  have hg := divF_good a b
  have hbad := divF_bad a b
  obtain ⟨x, hx⟩ : ∃ x, divF a b = x := ⟨_, rfl⟩
  obtain ⟨xr, xk⟩ := x
  rw [hx] at hq hg hbad
  have HG := hid hg
  obtain ⟨pa, ca, rfl⟩ := hva.shape (L := a.length) rfl
  obtain ⟨pb, cb, rfl⟩ := hvb.shape (L := b.length) rfl
  clear hva hvb ht hg hx
  by_cases hk : xk = 0
  · subst hk
    obtain ⟨hc, hz, hlt, hr⟩ := HG.out rfl
    obtain ⟨k0, k1, k2⟩ := code_ops a b hc
    obtain ⟨l1, l2, l3, l4⟩ := code_len a b k0
    obtain ⟨p, s, c, q1, q2, q3, q4, q5, q6⟩ := div_back a b _ _ rfl rfl hc hz hlt
    have hf1 := fldN_length (a.length - b.length) (rn a != rn b) (rv a / rv b)
    have hf2 := fldN_length b.length (rn a) (rv a % rv b)
    obtain ⟨f1, hf1e⟩ : ∃ x, fldN (a.length - b.length) (rn a != rn b) (rv a / rv b) = x := ⟨_, rfl⟩
    obtain ⟨f2, hf2e⟩ : ∃ x, fldN b.length (rn a) (rv a % rv b) = x := ⟨_, rfl⟩
    rw [hf1e] at q1 hr hf1
    rw [hf2e] at q2 q4 hr hf2
    simp only at hr
    subst hr
    have Q1 := hid q1
    have Q2 := hid q2
    have Q3 := hid q3
    have Q4 := hid q4
    have Q5 := hid q5
    have Q6 := hid q6
    have hlen : (f1 ++ f2).length = a.length := by rw [List.length_append, hf1, hf2]; omega
    have HT1 := hid (show (f1 ++ f2).take (a.length - b.length) = f1 from by rw [← hf1]; simp)
    have HT2 := hid (show (f1 ++ f2).drop (a.length - b.length) = f2 from by rw [← hf1]; simp)
    have HF1 := hid hf1
    have HF2 := hid hf2
    have HLEN := hid hlen
    clear HG q1 q2 q3 q4 q5 q6 hf1 hf2 hf1e hf2e hc hz hlt k0 hbad hlen
    have hmk := mk_bytes (P := Tryd.prog) 22 5 Tryd.underlying22 info_u8 b.length (by omega)
    simp only [zrow_eq] at hmk
    obtain ⟨L, hL⟩ : ∃ L, a.length = L := ⟨_, rfl⟩
    obtain ⟨M, hM⟩ : ∃ L, b.length = L := ⟨_, rfl⟩
    rw [hL] at HA HT1 HT2 HF1 HLEN l1 l2 k2 hq
    rw [hM] at HB HT1 HT2 HF1 HF2 l3 l4 k1 k2 hmk Q1 hq
    rw [hL, hM]
    clear hL hM
    have e3 : ((L : Int) != (L : Int)) = false := by simp
    have e4 : ¬ (L : Int) - (M : Int) < 1 := by omega
    obtain ⟨N, hN⟩ : ∃ N, L - M = N := ⟨_, rfl⟩
    have hNI : (L : Int) - (M : Int) = (N : Int) := by omega
    rw [hN] at HT1 HT2 HF1
    have hN1 : N < L := by omega
    have hNM : L - N = M := by omega
    go_enter Tryd.func11, Tryd.ntmps11
    go_wp2_with (fail)
    go_at_call 13
    refine Calls.mono hq ?_
    rintro e w1 ⟨u1, rfl, hO, hc1⟩
    clear hq
    rcases (Reads.of_own hO).parts HLEN.out with ⟨_, h0, _⟩ | ⟨bb, off, cap, rfl, z1, z2, z3, -⟩
    · omega
    have HU := hid (Reads.of_own hO)
    clear hO
    have HC := hid hc1
    clear hc1
    have HW := hid (show (w1.alloc (.cells (Array.replicate M (eb 0)) 5)).ownsRow w1.heap.size 5 1 (.slice (some ⟨w1.heap.size, 0, none⟩) M M) M ((List.replicate M (0 : UInt8)).map eb) from by
      have := own_lit (w := w1) (e := 5) (m := M) ((List.replicate M (0 : UInt8)).map eb) (by simp) (by omega)
      simpa using this)
    have HTK := hid (show Reads (w1.alloc (.cells (Array.replicate M (eb 0)) 5)) (.slice (some ⟨bb, off, none⟩) N cap) f1 from by
      have := (HU.out.takeB N (by omega)).keep1 (Chg.alloc [] w1 (.cells (Array.replicate M (eb 0)) 5))
      rw [HT1.out] at this; exact this)
    have HDR := hid (show Reads w1 (.slice (some ⟨bb, off + N, none⟩) M (cap - N)) f2 from by
      have := HU.out.dropB N (by omega)
      rw [HT2.out, hNM] at this; exact this)
    go_wp2_with (at_builtin; refine appendR rfl _ _ 22 rfl w1.heap.size 5 1 (.int .u8 0) Tryd.underlying22 info_u8 rfl (by decide) f1 N bb off cap HF1.out HTK.out HW.out rfl rfl (by omega) (by simp) ?_; intro v' w2 ho' hc')
    have hcw := (Chg.alloc [] w1 (.cells (Array.replicate M (eb 0)) 5)).then hc' (by simp [own, Value.ownBlock])
    have HV := hid (show Reads w2 v' (List.replicate M 0 ++ f1) from Reads.of_own (by rw [List.map_append, List.length_append, List.length_replicate, HF1.out]; exact ho'))
    have HC2 := hid (HC.out.trans hcw)
    have HDR2 := hid (HDR.out.keep1 hcw)
    clear ho' hc' hcw HTK HW HDR HU HC hmk
    have hq := Multiply_any w2 _ _ _ b HV.out (HB.out.keep1 HC2.out) (HT.out.keep HC2.out)
    rw [Q1.out] at hq
    go_at_call 17
    refine Calls.mono hq ?_
    rintro e w3 ⟨u3, rfl, hO, hc3⟩
    have HP := hid (Reads.of_own hO)
    have HDR3 := hid (HDR2.out.keep1 hc3)
    have HC3 := hid (HC2.out.trans hc3)
    clear hq hO hc3 HDR2 HC2 HV
    have hq := Add_any w3 _ _ p f2 HP.out HDR3.out (HT.out.keep HC3.out)
    rw [Q2.out] at hq
    go_wp2_with (fail)
    go_at_call 21
    refine Calls.mono hq ?_
    rintro e w4 ⟨u4, rfl, hO, hc4⟩
    have HS := hid (Reads.of_own hO)
    have HDR4 := hid (HDR3.out.keep1 hc4)
    have HC4 := hid (HC3.out.trans hc4)
    clear hq hO hc4 HDR3 HC3 HP
    have hq := equal_yes w4 _ _ s a HS.out (HA.out.keep1 HC4.out) Q3.out
    go_wp2_with (fail)
    go_at_call 31
    refine Calls.mono hq ?_
    rintro e w5 ⟨rfl, hc5⟩
    have HDR5 := hid (HDR4.out.keep1 hc5)
    have HC5 := hid (HC4.out.trans hc5)
    clear hq hc5 HDR4 HC4 HS
    have hq := lessf_yes w5 _ _ f2 b _ _ _ _ HDR5.out (HB.out.keep1 HC5.out) Q4.out Q5.out Q6.out
    go_wp2_with (fail)
    go_at_call 34
    refine Calls.mono hq ?_
    rintro e w6 ⟨rfl, hc6⟩
    have HC6 := hid (HC5.out.trans hc6)
    clear hq hc6 HDR5 HC5
    have hq := works_yes w6 (HT.out.keep HC6.out)
    go_wp2_with (fail)
    go_at_call 16
    refine Calls.mono hq ?_
    rintro e w7 ⟨rfl, hc7⟩
    go_wp2_with (fail)
    go_returns
    exact ⟨rfl, HC6.out.trans hc7⟩
  · have e1 : ((xk : Int) != 0) = true := by simp [hk]
    have hr : xr = [] := hbad hk
    subst hr
    clear HG hbad hk
    go_enter Tryd.func11, Tryd.ntmps11
    go_wp2_with (fail)
    go_at_call 13
    refine Calls.mono hq ?_
    rintro e w1 ⟨u1, rfl, hO, hc1⟩
    obtain ⟨ua, uc, rfl, -⟩ := own_slice hO
    clear hq hO
    have hq := works_yes w1 (HT.out.keep hc1)
    go_wp2_with (fail)
    go_at_call 16
    refine Calls.mono hq ?_
    rintro e w7 ⟨rfl, hc7⟩
    go_wp2_with (fail)
    go_returns
    exact ⟨rfl, hc1.trans hc7⟩

end Go.Proofs.YtmklkfogddppmaaDoor
