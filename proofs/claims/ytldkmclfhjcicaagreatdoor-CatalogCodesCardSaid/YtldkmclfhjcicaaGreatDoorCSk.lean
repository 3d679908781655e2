import Derived.WalkSpells
import Derived.Outline
import Derived.Test.YtldkmclfhjcicaaGreatDoorProg
import Derived.Test.YtldkmclfhjcicaaGreatDoorCMem
import Derived.Test.YtldkmclfhjcicaaGreatDoorCNam
import Derived.Test.YtldkmclfhjcicaaGreatDoorCatP
import Derived.Test.YtldkmclfhjcicaaGreatDoorFr

/- Comparison of names, and the search for a name in an ascending slice: the leaves. -/
namespace Go.Proofs.YtldkmclfhjcicaaGreatDoor
open Go.RowKit
set_option linter.unusedVariables false
set_option linter.unusedSimpArgs false

def cmpI (a b : Bs) : Int := if a < b then -1 else if a = b then 0 else 1
theorem cmpI_lt {a b : Bs} : cmpI a b < 0 ↔ a < b := by
  unfold cmpI; split
  · rename_i h; simp [h]
  · split
    · rename_i h g; subst g; simp [h]
    · rename_i h g; simp [h]
theorem cmpI_eq {a b : Bs} : cmpI a b = 0 ↔ a = b := by
  unfold cmpI; split
  · rename_i h; constructor
    · intro g; cases g
    · intro g; subst g; exact absurd h (List.lt_irrefl _)
  · split
    · rename_i h g; simp [g]
    · rename_i h g; simp [g]

theorem isNaN_any (S : ByteArray) (w : World) : Calls Tryz.prog 86 #[.string S] w fun e w' => e = .returned (.bool false) ∧ w = w' := by
  go_enter Tryz.func86, Tryz.ntmps86
  go_wp2
  go_ret
  exact ⟨by simp, rfl⟩

theorem Compare_any (S T : ByteArray) (w : World) : Calls Tryz.prog 71 #[.string S, .string T] w fun e w' => e = .returned (.int .i64 (cmpI S.data.toList T.data.toList)) ∧ w = w' := by
  cases h : Op.bytesLess S.toList T.toList
  · cases g : (S.toList == T.toList)
    · have H := hid (show cmpI S.data.toList T.data.toList = 1 from by
        rw [str_less] at h; rw [str_eq] at g
        unfold cmpI; rw [if_neg (by simpa using h), if_neg (by simpa using g)])
      go_enter Tryz.func71, Tryz.ntmps71
      go_wp2_with (go_at_call 86; refine (isNaN_any _ _).mono ?_; rintro e w' ⟨rfl, rfl⟩)
      go_ret
      exact ⟨ret_int H.out, rfl⟩
    · have H := hid (show cmpI S.data.toList T.data.toList = 0 from by
        rw [str_less] at h; rw [str_eq] at g
        unfold cmpI; rw [if_neg (by simpa using h), if_pos (by simpa using g)])
      go_enter Tryz.func71, Tryz.ntmps71
      go_wp2_with (go_at_call 86; refine (isNaN_any _ _).mono ?_; rintro e w' ⟨rfl, rfl⟩)
      go_ret
      exact ⟨ret_int H.out, rfl⟩
  · have H := hid (show cmpI S.data.toList T.data.toList = -1 from by
      rw [str_less] at h
      unfold cmpI; rw [if_pos (by simpa using h)])
    go_enter Tryz.func71, Tryz.ntmps71
    go_wp2_with (go_at_call 86; refine (isNaN_any _ _).mono ?_; rintro e w' ⟨rfl, rfl⟩)
    go_ret
    exact ⟨ret_int H.out, rfl⟩

theorem nameOf_any (S T : ByteArray) (u f : Int) (w : World) : Calls Tryz.prog 40 #[.agg #[.string S, .int .i64 u, .string T, .int .i64 f]] w fun e w' => e = .returned (.string S) ∧ Chg [] w w' := by
  go_enter Tryz.func40, Tryz.ntmps40
  go_wp2
  go_ret
  exact ⟨rfl, Chg.alloc _ _ _⟩
theorem baseOf_any (S : ByteArray) (u : Int) (w : World) : Calls Tryz.prog 55 #[.agg #[.string S, .int .i64 u]] w fun e w' => e = .returned (.string S) ∧ Chg [] w w' := by
  go_enter Tryz.func55, Tryz.ntmps55
  go_wp2
  go_ret
  exact ⟨rfl, Chg.alloc _ _ _⟩

theorem seekE1_any (S T Q : ByteArray) (u f : Int) (B : Nat) (w : World) (hB : w.cell? ⟨B, 0, none⟩ = some (.func (.func 40) #[] #[])) :
    Calls Tryz.prog 70 #[.agg #[.string S, .int .i64 u, .string T, .int .i64 f], .string Q, .pointer (some ⟨B, 0, none⟩)] w fun e w' =>
      e = .returned (.int .i64 (cmpI S.data.toList Q.data.toList)) ∧ Chg [] w w' := by
  have hlt : B < w.heap.size := World.block_lt_of_cell? w _ hB
  go_enter Tryz.func70, Tryz.ntmps70
  go_wp2_with (first
    | (go_at_call 40; refine (nameOf_any _ _ _ _ _).mono ?_; rintro e w1 ⟨rfl, hc⟩)
    | (go_at_call 71; refine (Compare_any _ _ _).mono ?_; rintro e w2 ⟨rfl, rfl⟩))
  go_ret
  exact ⟨rfl, (Chg.alloc _ _ _).trans hc⟩
theorem seekG1_any (S Q : ByteArray) (u : Int) (B : Nat) (w : World) (hB : w.cell? ⟨B, 0, none⟩ = some (.func (.func 55) #[] #[])) :
    Calls Tryz.prog 77 #[.agg #[.string S, .int .i64 u], .string Q, .pointer (some ⟨B, 0, none⟩)] w fun e w' =>
      e = .returned (.int .i64 (cmpI S.data.toList Q.data.toList)) ∧ Chg [] w w' := by
  have hlt : B < w.heap.size := World.block_lt_of_cell? w _ hB
  go_enter Tryz.func77, Tryz.ntmps77
  go_wp2_with (first
    | (go_at_call 55; refine (baseOf_any _ _ _).mono ?_; rintro e w1 ⟨rfl, hc⟩)
    | (go_at_call 71; refine (Compare_any _ _ _).mono ?_; rintro e w2 ⟨rfl, rfl⟩))
  go_ret
  exact ⟨rfl, (Chg.alloc _ _ _).trans hc⟩

end Go.Proofs.YtldkmclfhjcicaaGreatDoor

/- slices.BinarySearchFunc and seek, at entries and at groups (printed by tools/gen27s.py). -/
namespace Go.Proofs.YtldkmclfhjcicaaGreatDoor
open Go.RowKit
set_option linter.unusedVariables false
set_option linter.unusedSimpArgs false

theorem asc_le {l : List Bs} (ha : asc l = true) {i j : Nat} {x y q : Bs} (hij : i ≤ j) (hx : l[i]? = some x) (hy : l[j]? = some y) (h : y < q) : x < q := by
  rcases Nat.lt_or_ge i j with hlt | hge
  · have key : ∀ (l : List Bs) (a b : Nat) (x y : Bs), asc l = true → a < b → l[a]? = some x → l[b]? = some y → x < y := by
      intro l
      induction l with
      | nil => intro a b x y _ _ hx; simp at hx
      | cons z t ih =>
        intro a b x y ha hab hx hy
        cases b with
        | zero => omega
        | succ b =>
          cases a with
          | zero => have : z = x := by simpa using hx
                    subst this; exact asc_head ha y (List.mem_of_getElem? (by simpa using hy))
          | succ a => exact ih a b x y (asc_tail ha) (by omega) (by simpa using hx) (by simpa using hy)
    exact List.lt_trans (key l i j x y ha hlt hx hy) h
  · obtain rfl : i = j := by omega
    rw [hx] at hy; cases hy; exact h
theorem lbS_unique (l : List Bs) (q : Bs) (i : Nat) (h : ∀ t, t < i → ∃ x, l[t]? = some x ∧ x < q) (h' : ∀ t x, i ≤ t → l[t]? = some x → ¬ x < q) : lbS l q = i := by
  rcases Nat.lt_trichotomy (lbS l q) i with k | k | k
  · obtain ⟨x, hx, hlt⟩ := h _ k
    have : ∀ (l : List Bs) (x : Bs), l[lbS l q]? = some x → ¬ x < q := by
      intro l
      induction l with
      | nil => intro x hx; simp [lbS] at hx
      | cons y t ih =>
        intro x hx
        unfold lbS at hx
        split at hx
        · exact ih x (by simpa using hx)
        · rename_i hy; have : y = x := by simpa using hx
          subst this; exact hy
    exact absurd hlt (this l x hx)
  · exact k
  · obtain ⟨x, hx, hlt⟩ := lbS_lt l q i k
    exact absurd hlt (h' i x (Nat.le_refl _) hx)

set_option maxHeartbeats 1000000 in
theorem bsE_some (w : World) (es : List Ent) (Q : ByteArray) (B bb off cap L : Nat) (hL : es.length = L) (h1 : 1 ≤ L) (h2 : L ≤ cap) (h3 : cap ≤ 9223372036854775807) (hbb : bb < w.heap.size) (hM : L ≤ 1000000)
    (HC : Hid (∀ i, i < L → w.cell? ⟨bb, off + i * 4, none⟩ = some (.string ⟨(es.getD i default).name.toArray⟩) ∧ w.cell? ⟨bb, off + i * 4 + 1, none⟩ = some (.int .i64 (es.getD i default).unit) ∧ w.cell? ⟨bb, off + i * 4 + 2, none⟩ = some (.string ⟨(es.getD i default).serial.toArray⟩) ∧ w.cell? ⟨bb, off + i * 4 + 3, none⟩ = some (.int .i64 (es.getD i default).file))) (ha : asc (namesS es) = true)
    (hB : w.cell? ⟨B, 0, none⟩ = some (.func (.func 40) #[] #[])) :
    Calls Tryz.prog 69 #[.slice (some ⟨bb, off, none⟩) L cap, .string Q, .func (.func 70) #[] #[.pointer (some ⟨B, 0, none⟩)]] w fun e w' =>
      e = .returned (.tuple #[.int .i64 (lbS (namesS es) Q.data.toList : Nat), .bool (decide (Q.data.toList ∈ namesS es))]) ∧ Chg [] w w' := by
  have hlt : B < w.heap.size := World.block_lt_of_cell? w _ hB
  have HG : Hid (∀ i, i < L → (namesS es)[i]? = some (es.getD i default).name) := fun i hi => by
    unfold namesS; rw [List.getElem?_map, List.getD_eq_getElem?_getD, List.getElem?_eq_getElem (by omega)]; rfl
  have HLn := hid (show (namesS es).length = L from by unfold namesS; rw [List.length_map]; exact hL)
  have HA := hid ha
  have HB := hid hB
  clear ha hB hL
  generalize hl : namesS es = l at HG HLn HA ⊢
  have HF : Hid (∀ i, lbS l Q.data.toList = i → (Q.data.toList ∈ l ↔ l[i]? = some Q.data.toList)) := fun i hi => by rw [← hi]; exact (lbS_mem l _ HA.out).symm
  have HU := hid (fun i h h' => lbS_unique l Q.data.toList i h h')
  clear hl
  obtain ⟨p, hp⟩ : ∃ p, lbS l Q.data.toList = p := ⟨_, rfl⟩
  obtain ⟨d, hd⟩ : ∃ d, decide (Q.data.toList ∈ l) = d := ⟨_, rfl⟩
  rw [hp, hd]
  have HP := hid hp
  have HD := hid hd
  clear hp hd
  have HR : Hid (∀ i (c : Int), i < L → cmpI (es.getD i default).name Q.data.toList = c → ∀ W, Chg [] w W →
      Calls Tryz.prog 70 #[.agg #[.string ⟨(es.getD i default).name.toArray⟩, .int .i64 (es.getD i default).unit, .string ⟨(es.getD i default).serial.toArray⟩, .int .i64 (es.getD i default).file], .string Q, .pointer (some ⟨B, 0, none⟩)] W fun e w' => e = .returned (.int .i64 c) ∧ Chg [] W w') := fun i c hi hc W hW => by
    have h := seekE1_any ⟨(es.getD i default).name.toArray⟩ ⟨(es.getD i default).serial.toArray⟩ Q (es.getD i default).unit (es.getD i default).file B W (hW.cell HB.out (by simp))
    rw [bs_data, hc] at h
    exact h
  clear HB
  go_enter Tryz.func69, Tryz.ntmps69
  go_wp2_with (fail)
  go_loopw [9, 10] (fun s9 s10 wr => ∃ lo hi : Nat, s9 = .int .i64 lo ∧ s10 = .int .i64 hi ∧ lo ≤ hi ∧ hi ≤ L ∧ Hid (∀ t x, t < lo → l[t]? = some x → x < Q.data.toList) ∧ Hid (∀ t x, hi ≤ t → l[t]? = some x → ¬ x < Q.data.toList) ∧ Chg [] w wr)
    (fun s9 s10 _ => (intOf s10 - intOf s9).toNat)
  case atStart => exact ⟨0, L, rfl, rfl, Nat.zero_le _, Nat.le_refl _, (fun t x h => absurd h (Nat.not_lt_zero _)), (fun t x h hx => by rw [List.getElem?_eq_none (by rw [HLn.out]; exact h)] at hx; cases hx), Chg.refl _ _⟩
  case round =>
    obtain ⟨lo, hi, rfl, rfl, hlh, hin, I1, I2, hc⟩ := hrel
    by_cases hq : lo < hi
    · have hm : (lo + hi) / 2 < L := by omega
      obtain ⟨k0, k1, k2, k3⟩ := HC.out ((lo + hi) / 2) hm
      replace k0 := hc.cell k0 (by simp)
      replace k1 := hc.cell k1 (by simp)
      replace k2 := hc.cell k2 (by simp)
      replace k3 := hc.cell k3 (by simp)
      have hg := HG.out _ hm
      have hr := fun c hc1 => HR.out ((lo + hi) / 2) c hm hc1 wr hc
      have hmono : ∀ t x y, t ≤ (lo + hi) / 2 → l[t]? = some x → l[(lo + hi) / 2]? = some y → y < Q.data.toList → x < Q.data.toList := fun t x y ht hx hy hlt => asc_le HA.out ht hx hy hlt
      have HMo := hid hmono
      clear hmono
      generalize es.getD ((lo + hi) / 2) default = x at *
      have HG' := hid hg
      clear hg
      by_cases hx : x.name < Q.data.toList
      · obtain ⟨c, hcc, hc0⟩ : ∃ c, cmpI x.name Q.data.toList = c ∧ c < 0 := ⟨_, rfl, cmpI_lt.2 hx⟩
        have hr := hr c hcc
        have J1 : Hid (∀ t y, t < (lo + hi) / 2 + 1 → l[t]? = some y → y < Q.data.toList) := fun t y ht hy => HMo.out t y x.name (by omega) hy HG'.out hx
        clear HMo HG' hcc hx
        go_wp2_with (refine hr.mono ?_; rintro e w2 ⟨rfl, hc2⟩)
        go_roundw
        case rel => exact ⟨(lo + hi) / 2 + 1, hi, by go_num, rfl, by omega, hin, J1, I2, hc.trans hc2⟩
        case measure => simp [intOf]; omega
      · obtain ⟨c, hcc, hc0⟩ : ∃ c, cmpI x.name Q.data.toList = c ∧ ¬ c < 0 := ⟨_, rfl, fun h => hx (cmpI_lt.1 h)⟩
        have hr := hr c hcc
        have J2 : Hid (∀ t y, (lo + hi) / 2 ≤ t → l[t]? = some y → ¬ y < Q.data.toList) := fun t y ht hy hlt => hx (asc_le HA.out ht HG'.out hy hlt)
        clear HMo HG' hcc hx
        go_wp2_with (refine hr.mono ?_; rintro e w2 ⟨rfl, hc2⟩)
        go_roundw
        case rel => exact ⟨lo, (lo + hi) / 2, rfl, by go_num, by omega, by omega, I1, J2, hc.trans hc2⟩
        case measure => simp [intOf]; omega
    · obtain rfl : lo = hi := by omega
      have hlb := HU.out lo (fun t ht => by obtain ⟨x, hx⟩ : ∃ x, l[t]? = some x := ⟨_, List.getElem?_eq_getElem (by rw [HLn.out]; omega)⟩; exact ⟨x, hx, I1.out t x ht hx⟩) (fun t x ht hx => I2.out t x ht hx)
      have HM := hid (HF.out lo hlb)
      obtain rfl : p = lo := HP.out.symm.trans hlb
      clear hlb HP
      by_cases hn : p < L
      · obtain ⟨k0, k1, k2, k3⟩ := HC.out p hn
        replace k0 := hc.cell k0 (by simp)
        replace k1 := hc.cell k1 (by simp)
        replace k2 := hc.cell k2 (by simp)
        replace k3 := hc.cell k3 (by simp)
        have hg := HG.out p hn
        have hr := fun c hc1 => HR.out p c hn hc1 wr hc
        generalize es.getD p default = x at *
        by_cases hx : x.name = Q.data.toList
        · have hr := hr 0 (cmpI_eq.2 hx)
          obtain rfl : d = true := HD.out.symm.trans (decide_eq_true (HM.out.2 (by rw [hg, hx])))
          clear hg hx HM
          go_wp2_with (refine hr.mono ?_; rintro e w2 ⟨rfl, hc2⟩)
          go_ret2
          exact ⟨rfl, hc.trans hc2⟩
        · obtain ⟨c, hcc, hc0⟩ : ∃ c, cmpI x.name Q.data.toList = c ∧ ¬ c = 0 := ⟨_, rfl, fun h => hx (cmpI_eq.1 h)⟩
          have hr := hr c hcc
          have hcb : (c == 0) = false := beq_eq_false_iff_ne.2 hc0
          obtain rfl : d = false := HD.out.symm.trans (decide_eq_false (fun h => hx (by have := HM.out.1 h; rw [hg] at this; exact Option.some.inj this)))
          clear hg hx HM hcc
          go_wp2_with (refine hr.mono ?_; rintro e w2 ⟨rfl, hc2⟩)
          go_ret2
          exact ⟨rfl, hc.trans hc2⟩
      · obtain rfl : d = false := HD.out.symm.trans (decide_eq_false (fun h => by have := HM.out.1 h; rw [List.getElem?_eq_none (by rw [HLn.out]; omega)] at this; cases this))
        clear HM
        go_wp2_with (fail)
        go_ret2
        exact ⟨rfl, hc⟩

theorem bsE_none (w : World) (a : Option Addr) (cap : Nat) (Q : ByteArray) (F : Value) :
    Calls Tryz.prog 69 #[.slice a 0 cap, .string Q, F] w fun e w' => e = .returned (.tuple #[.int .i64 0, .bool false]) ∧ Chg [] w w' := by
  go_enter Tryz.func69, Tryz.ntmps69
  go_wp2_with (fail)
  go_loopw [9, 10] (fun s9 s10 wr => s9 = .int .i64 0 ∧ s10 = .int .i64 0 ∧ Chg [] w wr) (fun s9 s10 _ => (intOf s10 - intOf s9).toNat)
  case atStart => exact ⟨rfl, rfl, Chg.refl _ _⟩
  case round =>
    obtain ⟨rfl, rfl, hc⟩ := hrel
    go_wp2_with (fail)
    go_ret2
    exact ⟨rfl, hc⟩

theorem seekE_any (w : World) (v : Value) (es : List Ent) (Q : ByteArray) (hv : RdE w v es) (hM : es.length ≤ 1000000) (ha : asc (namesS es) = true) :
    Calls Tryz.prog 39 #[v, .string Q, .func (.func 40) #[] #[]] w fun e w' =>
      e = .returned (.tuple #[.int .i64 (lbS (namesS es) Q.data.toList : Nat), .bool (decide (Q.data.toList ∈ namesS es))]) ∧ Chg [] w w' := by
  rcases hv.parts (L := es.length) rfl with ⟨rfl, _, a, cap, rfl⟩ | ⟨bb, off, cap, rfl, h1, h2, h3, hbb, HC⟩
  · have H := fun W F => bsE_none W a cap Q F
    go_enter Tryz.func39, Tryz.ntmps39
    go_wp2_with (go_at_call 69; refine (H _ _).mono ?_; rintro e w2 ⟨rfl, hc⟩)
    go_ret2
    exact ⟨by simp [namesS, lbS], (Chg.alloc _ _ _).trans hc⟩
  · have H := bsE_some (w.alloc (.cells #[.func (.func 40) #[] #[]] 87)) es Q w.heap.size bb off cap es.length rfl h1 h2 h3 (by simp; omega) hM
      (fun i hi => by
        obtain ⟨k0, k1, k2, k3⟩ := HC.out i hi
        exact ⟨(Chg.alloc [] w _).cell k0 (by simp), (Chg.alloc [] w _).cell k1 (by simp), (Chg.alloc [] w _).cell k2 (by simp), (Chg.alloc [] w _).cell k3 (by simp)⟩) ha (cell_of_one (al_new rfl))
    obtain ⟨L, hL⟩ : ∃ L, es.length = L := ⟨_, rfl⟩
    obtain ⟨p, hp⟩ : ∃ p, lbS (namesS es) Q.data.toList = p := ⟨_, rfl⟩
    obtain ⟨d, hd⟩ : ∃ d, decide (Q.data.toList ∈ namesS es) = d := ⟨_, rfl⟩
    rw [hL, hp, hd] at H
    rw [hL, hp, hd]
    clear hL hp hd HC ha hv
    go_enter Tryz.func39, Tryz.ntmps39
    go_wp2_with (go_at_call 69; refine H.mono ?_; rintro e w2 ⟨rfl, hc⟩)
    go_ret2
    exact ⟨rfl, (Chg.alloc _ _ _).trans hc⟩

set_option maxHeartbeats 1000000 in
theorem bsG_some (w : World) (es : List Grp) (Q : ByteArray) (B bb off cap L : Nat) (hL : es.length = L) (h1 : 1 ≤ L) (h2 : L ≤ cap) (h3 : cap ≤ 9223372036854775807) (hbb : bb < w.heap.size) (hM : L ≤ 1000000)
    (HC : Hid (∀ i, i < L → w.cell? ⟨bb, off + i * 2, none⟩ = some (.string ⟨(es.getD i default).base.toArray⟩) ∧ w.cell? ⟨bb, off + i * 2 + 1, none⟩ = some (.int .i64 (es.getD i default).limit))) (ha : asc (basesS es) = true)
    (hB : w.cell? ⟨B, 0, none⟩ = some (.func (.func 55) #[] #[])) :
    Calls Tryz.prog 76 #[.slice (some ⟨bb, off, none⟩) L cap, .string Q, .func (.func 77) #[] #[.pointer (some ⟨B, 0, none⟩)]] w fun e w' =>
      e = .returned (.tuple #[.int .i64 (lbS (basesS es) Q.data.toList : Nat), .bool (decide (Q.data.toList ∈ basesS es))]) ∧ Chg [] w w' := by
  have hlt : B < w.heap.size := World.block_lt_of_cell? w _ hB
  have HG : Hid (∀ i, i < L → (basesS es)[i]? = some (es.getD i default).base) := fun i hi => by
    unfold basesS; rw [List.getElem?_map, List.getD_eq_getElem?_getD, List.getElem?_eq_getElem (by omega)]; rfl
  have HLn := hid (show (basesS es).length = L from by unfold basesS; rw [List.length_map]; exact hL)
  have HA := hid ha
  have HB := hid hB
  clear ha hB hL
  generalize hl : basesS es = l at HG HLn HA ⊢
  have HF : Hid (∀ i, lbS l Q.data.toList = i → (Q.data.toList ∈ l ↔ l[i]? = some Q.data.toList)) := fun i hi => by rw [← hi]; exact (lbS_mem l _ HA.out).symm
  have HU := hid (fun i h h' => lbS_unique l Q.data.toList i h h')
  clear hl
  obtain ⟨p, hp⟩ : ∃ p, lbS l Q.data.toList = p := ⟨_, rfl⟩
  obtain ⟨d, hd⟩ : ∃ d, decide (Q.data.toList ∈ l) = d := ⟨_, rfl⟩
  rw [hp, hd]
  have HP := hid hp
  have HD := hid hd
  clear hp hd
  have HR : Hid (∀ i (c : Int), i < L → cmpI (es.getD i default).base Q.data.toList = c → ∀ W, Chg [] w W →
      Calls Tryz.prog 77 #[.agg #[.string ⟨(es.getD i default).base.toArray⟩, .int .i64 (es.getD i default).limit], .string Q, .pointer (some ⟨B, 0, none⟩)] W fun e w' => e = .returned (.int .i64 c) ∧ Chg [] W w') := fun i c hi hc W hW => by
    have h := seekG1_any ⟨(es.getD i default).base.toArray⟩ Q (es.getD i default).limit B W (hW.cell HB.out (by simp))
    rw [bs_data, hc] at h
    exact h
  clear HB
  go_enter Tryz.func76, Tryz.ntmps76
  go_wp2_with (fail)
  go_loopw [9, 10] (fun s9 s10 wr => ∃ lo hi : Nat, s9 = .int .i64 lo ∧ s10 = .int .i64 hi ∧ lo ≤ hi ∧ hi ≤ L ∧ Hid (∀ t x, t < lo → l[t]? = some x → x < Q.data.toList) ∧ Hid (∀ t x, hi ≤ t → l[t]? = some x → ¬ x < Q.data.toList) ∧ Chg [] w wr)
    (fun s9 s10 _ => (intOf s10 - intOf s9).toNat)
  case atStart => exact ⟨0, L, rfl, rfl, Nat.zero_le _, Nat.le_refl _, (fun t x h => absurd h (Nat.not_lt_zero _)), (fun t x h hx => by rw [List.getElem?_eq_none (by rw [HLn.out]; exact h)] at hx; cases hx), Chg.refl _ _⟩
  case round =>
    obtain ⟨lo, hi, rfl, rfl, hlh, hin, I1, I2, hc⟩ := hrel
    by_cases hq : lo < hi
    · have hm : (lo + hi) / 2 < L := by omega
      obtain ⟨k0, k1⟩ := HC.out ((lo + hi) / 2) hm
      replace k0 := hc.cell k0 (by simp)
      replace k1 := hc.cell k1 (by simp)
      have hg := HG.out _ hm
      have hr := fun c hc1 => HR.out ((lo + hi) / 2) c hm hc1 wr hc
      have hmono : ∀ t x y, t ≤ (lo + hi) / 2 → l[t]? = some x → l[(lo + hi) / 2]? = some y → y < Q.data.toList → x < Q.data.toList := fun t x y ht hx hy hlt => asc_le HA.out ht hx hy hlt
      have HMo := hid hmono
      clear hmono
      generalize es.getD ((lo + hi) / 2) default = x at *
      have HG' := hid hg
      clear hg
      by_cases hx : x.base < Q.data.toList
      · obtain ⟨c, hcc, hc0⟩ : ∃ c, cmpI x.base Q.data.toList = c ∧ c < 0 := ⟨_, rfl, cmpI_lt.2 hx⟩
        have hr := hr c hcc
        have J1 : Hid (∀ t y, t < (lo + hi) / 2 + 1 → l[t]? = some y → y < Q.data.toList) := fun t y ht hy => HMo.out t y x.base (by omega) hy HG'.out hx
        clear HMo HG' hcc hx
        go_wp2_with (refine hr.mono ?_; rintro e w2 ⟨rfl, hc2⟩)
        go_roundw
        case rel => exact ⟨(lo + hi) / 2 + 1, hi, by go_num, rfl, by omega, hin, J1, I2, hc.trans hc2⟩
        case measure => simp [intOf]; omega
      · obtain ⟨c, hcc, hc0⟩ : ∃ c, cmpI x.base Q.data.toList = c ∧ ¬ c < 0 := ⟨_, rfl, fun h => hx (cmpI_lt.1 h)⟩
        have hr := hr c hcc
        have J2 : Hid (∀ t y, (lo + hi) / 2 ≤ t → l[t]? = some y → ¬ y < Q.data.toList) := fun t y ht hy hlt => hx (asc_le HA.out ht HG'.out hy hlt)
        clear HMo HG' hcc hx
        go_wp2_with (refine hr.mono ?_; rintro e w2 ⟨rfl, hc2⟩)
        go_roundw
        case rel => exact ⟨lo, (lo + hi) / 2, rfl, by go_num, by omega, by omega, I1, J2, hc.trans hc2⟩
        case measure => simp [intOf]; omega
    · obtain rfl : lo = hi := by omega
      have hlb := HU.out lo (fun t ht => by obtain ⟨x, hx⟩ : ∃ x, l[t]? = some x := ⟨_, List.getElem?_eq_getElem (by rw [HLn.out]; omega)⟩; exact ⟨x, hx, I1.out t x ht hx⟩) (fun t x ht hx => I2.out t x ht hx)
      have HM := hid (HF.out lo hlb)
      obtain rfl : p = lo := HP.out.symm.trans hlb
      clear hlb HP
      by_cases hn : p < L
      · obtain ⟨k0, k1⟩ := HC.out p hn
        replace k0 := hc.cell k0 (by simp)
        replace k1 := hc.cell k1 (by simp)
        have hg := HG.out p hn
        have hr := fun c hc1 => HR.out p c hn hc1 wr hc
        generalize es.getD p default = x at *
        by_cases hx : x.base = Q.data.toList
        · have hr := hr 0 (cmpI_eq.2 hx)
          obtain rfl : d = true := HD.out.symm.trans (decide_eq_true (HM.out.2 (by rw [hg, hx])))
          clear hg hx HM
          go_wp2_with (refine hr.mono ?_; rintro e w2 ⟨rfl, hc2⟩)
          go_ret2
          exact ⟨rfl, hc.trans hc2⟩
        · obtain ⟨c, hcc, hc0⟩ : ∃ c, cmpI x.base Q.data.toList = c ∧ ¬ c = 0 := ⟨_, rfl, fun h => hx (cmpI_eq.1 h)⟩
          have hr := hr c hcc
          have hcb : (c == 0) = false := beq_eq_false_iff_ne.2 hc0
          obtain rfl : d = false := HD.out.symm.trans (decide_eq_false (fun h => hx (by have := HM.out.1 h; rw [hg] at this; exact Option.some.inj this)))
          clear hg hx HM hcc
          go_wp2_with (refine hr.mono ?_; rintro e w2 ⟨rfl, hc2⟩)
          go_ret2
          exact ⟨rfl, hc.trans hc2⟩
      · obtain rfl : d = false := HD.out.symm.trans (decide_eq_false (fun h => by have := HM.out.1 h; rw [List.getElem?_eq_none (by rw [HLn.out]; omega)] at this; cases this))
        clear HM
        go_wp2_with (fail)
        go_ret2
        exact ⟨rfl, hc⟩

theorem bsG_none (w : World) (a : Option Addr) (cap : Nat) (Q : ByteArray) (F : Value) :
    Calls Tryz.prog 76 #[.slice a 0 cap, .string Q, F] w fun e w' => e = .returned (.tuple #[.int .i64 0, .bool false]) ∧ Chg [] w w' := by
  go_enter Tryz.func76, Tryz.ntmps76
  go_wp2_with (fail)
  go_loopw [9, 10] (fun s9 s10 wr => s9 = .int .i64 0 ∧ s10 = .int .i64 0 ∧ Chg [] w wr) (fun s9 s10 _ => (intOf s10 - intOf s9).toNat)
  case atStart => exact ⟨rfl, rfl, Chg.refl _ _⟩
  case round =>
    obtain ⟨rfl, rfl, hc⟩ := hrel
    go_wp2_with (fail)
    go_ret2
    exact ⟨rfl, hc⟩

theorem seekG_any (w : World) (v : Value) (es : List Grp) (Q : ByteArray) (hv : RdG w v es) (hM : es.length ≤ 1000000) (ha : asc (basesS es) = true) :
    Calls Tryz.prog 54 #[v, .string Q, .func (.func 55) #[] #[]] w fun e w' =>
      e = .returned (.tuple #[.int .i64 (lbS (basesS es) Q.data.toList : Nat), .bool (decide (Q.data.toList ∈ basesS es))]) ∧ Chg [] w w' := by
  rcases hv.parts (L := es.length) rfl with ⟨rfl, _, a, cap, rfl⟩ | ⟨bb, off, cap, rfl, h1, h2, h3, hbb, HC⟩
  · have H := fun W F => bsG_none W a cap Q F
    go_enter Tryz.func54, Tryz.ntmps54
    go_wp2_with (go_at_call 76; refine (H _ _).mono ?_; rintro e w2 ⟨rfl, hc⟩)
    go_ret2
    exact ⟨by simp [basesS, lbS], (Chg.alloc _ _ _).trans hc⟩
  · have H := bsG_some (w.alloc (.cells #[.func (.func 55) #[] #[]] 101)) es Q w.heap.size bb off cap es.length rfl h1 h2 h3 (by simp; omega) hM
      (fun i hi => by
        obtain ⟨k0, k1⟩ := HC.out i hi
        exact ⟨(Chg.alloc [] w _).cell k0 (by simp), (Chg.alloc [] w _).cell k1 (by simp)⟩) ha (cell_of_one (al_new rfl))
    obtain ⟨L, hL⟩ : ∃ L, es.length = L := ⟨_, rfl⟩
    obtain ⟨p, hp⟩ : ∃ p, lbS (basesS es) Q.data.toList = p := ⟨_, rfl⟩
    obtain ⟨d, hd⟩ : ∃ d, decide (Q.data.toList ∈ basesS es) = d := ⟨_, rfl⟩
    rw [hL, hp, hd] at H
    rw [hL, hp, hd]
    clear hL hp hd HC ha hv
    go_enter Tryz.func54, Tryz.ntmps54
    go_wp2_with (go_at_call 76; refine H.mono ?_; rintro e w2 ⟨rfl, hc⟩)
    go_ret2
    exact ⟨rfl, (Chg.alloc _ _ _).trans hc⟩

end Go.Proofs.YtldkmclfhjcicaaGreatDoor

/- generations of layer 27. -/
namespace Go.Proofs.YtldkmclfhjcicaaGreatDoor
open Go.RowKit Go.Shelf
set_option linter.unusedVariables false
set_option linter.unusedSimpArgs false

def idxK (b : Bs) (es : List Ent) (k : Nat) : List Nat := (List.range k).filter fun i => decide (0 < numS b (es.getD i default).name)
theorem idxK_all (b : Bs) (es : List Ent) : idxK b es es.length = idxG b es := rfl
theorem idxK_succ (b : Bs) (es : List Ent) (k : Nat) : idxK b es (k + 1) = idxK b es k ++ if 0 < numS b (es.getD k default).name then [k] else [] := by
  unfold idxK
  rw [List.range_succ, List.filter_append]
  congr 1
  by_cases h : 0 < numS b (es.getD k default).name
  · rw [if_pos h]; simp only [List.filter_cons, decide_eq_true h, if_true, List.filter_nil]
  · rw [if_neg h]; simp only [List.filter_cons, decide_eq_false h, Bool.false_eq_true, if_false, List.filter_nil]
theorem idxK_len (b : Bs) (es : List Ent) (k : Nat) : (idxK b es k).length ≤ k := by
  unfold idxK; exact Nat.le_trans (List.length_filter_le _ _) (by simp)

theorem info_int' : (Tryz.prog.info? 3).map (fun i => (i.zero, i.size, i.bytes)) = some (some (.int .i64 0), 1, 8) := by kernel_rfl

set_option maxRecDepth 100000 in
set_option maxHeartbeats 1000000 in
theorem generations_any (w : World) (ve vg : Value) (es : List Ent) (A : ByteArray) (hA : A.size ≤ 1000000) (hM : es.length ≤ 1000000) (hv : RdE w ve es) (hg : ∃ a n c, vg = .slice a n c) :
    Calls Tryz.prog 42 #[.agg #[ve, vg], .string A] w fun e w' => ∃ u, e = .returned u ∧ w'.ownsRow w.heap.size 3 1 u (idxG A.data.toList es).length ((idxG A.data.toList es).map en) ∧ Chg [] w w' := by
  obtain ⟨ga, gn, gc, rfl⟩ := hg
  obtain ⟨b, hb⟩ : ∃ b, A.data.toList = b := ⟨_, rfl⟩
  obtain ⟨L, hL⟩ : ∃ L, es.length = L := ⟨_, rfl⟩
  have HN : Hid (∀ i W, Calls Tryz.prog 59 #[.string A, .string ⟨(es.getD i default).name.toArray⟩] W fun e w' => e = .returned (.int .i64 (numS b (es.getD i default).name : Nat)) ∧ W = w') := fun i W => by
    have h := number_any A ⟨(es.getD i default).name.toArray⟩ hA W
    rw [hb] at h
    exact h
  have HF : Hid (∀ (u : Value) (W : World), W.ownsRow w.heap.size 3 1 u (idxK b es L).length ((idxK b es L).map en) → W.ownsRow w.heap.size 3 1 u (idxG A.data.toList es).length ((idxG A.data.toList es).map en)) := fun u W h => by
    rw [← hL, idxK_all, ← hb] at h; exact h
  rw [hL] at hM
  have hpart := hv.parts hL
  obtain ⟨ea, ec, rfl, HC⟩ : ∃ ea ec, ve = .slice ea L ec ∧ Hid (∀ i, i < L → ∃ bb off, ea = some ⟨bb, off, none⟩ ∧ bb < w.heap.size ∧ w.cell? ⟨bb, off + i * 4, none⟩ = some (.string ⟨(es.getD i default).name.toArray⟩) ∧ w.cell? ⟨bb, off + i * 4 + 1, none⟩ = some (.int .i64 (es.getD i default).unit) ∧
        w.cell? ⟨bb, off + i * 4 + 2, none⟩ = some (.string ⟨(es.getD i default).serial.toArray⟩) ∧ w.cell? ⟨bb, off + i * 4 + 3, none⟩ = some (.int .i64 (es.getD i default).file)) := by
    rcases hpart with ⟨_, h0, a, cap, rfl⟩ | ⟨bb, off, cap, rfl, h1, h2, h3, hbb, hc⟩
    · exact ⟨a, cap, by rw [h0], fun i hi => by omega⟩
    · exact ⟨_, _, rfl, fun i hi => ⟨bb, off, rfl, hbb, hc.out i hi⟩⟩
  clear hpart hv hL
  go_enter Tryz.func42, Tryz.ntmps42
  go_wp2_with (fail)
  go_loopw [5, 11] (fun v i wr => ∃ k : Nat, k ≤ L ∧ i = .int .i64 k ∧ wr.ownsRow w.heap.size 3 1 v (idxK b es k).length ((idxK b es k).map en) ∧ Chg [] w wr) (fun _ i _ => L - (intOf i).toNat)
  case atStart => exact ⟨0, by omega, rfl, World.ownsRow_nil _ _ _ _, Chg.alloc _ _ _⟩
  case round =>
    obtain ⟨k, hk, rfl, hown, hc⟩ := hrel
    by_cases hlt : k < L
    · obtain ⟨bb, off, rfl, hbb, k0, k1, k2, k3⟩ := HC.out k hlt
      have hlti : (k : Int) < (L : Int) := by omega
      have hlen := idxK_len b es k
      have hstep := hid (idxK_succ b es k)
      replace k0 := hc.cell k0 (by simp)
      replace k1 := hc.cell k1 (by simp)
      replace k2 := hc.cell k2 (by simp)
      replace k3 := hc.cell k3 (by simp)
      have cN := HN.out k
      have hbw : bb < wr.heap.size := by have := hc.size; omega
      generalize es.getD k default = x at *
      generalize (⟨x.name.toArray⟩ : ByteArray) = X at *
      generalize (⟨x.serial.toArray⟩ : ByteArray) = Y at *
      by_cases hn : 0 < numS b x.name
      · have hni : (0 : Int) < (numS b x.name : Nat) := by omega
        rw [if_pos hn] at hstep
        generalize numS b x.name = nn at *
        have ho2 := ownK_keep1 hown (Chg.alloc [] wr (.cells #[.string X, .int .i64 x.unit, .string Y, .int .i64 x.file] 45))
        have HCh := hid hc
        have hBw := hc.size
        clear hown hc
        go_wp2_with (first | (go_at_call 59; refine (cN _).mono ?_; rintro e w1 ⟨rfl, rfl⟩) | (at_builtin; refine appendN2 rfl _ _ 83 rfl w.heap.size 3 8 (.int .i64 0) Tryz.underlying83 info_int' rfl (by decide) 1 [_] rfl _ (by simp) ho2 rfl rfl (by simp [Value.oneCell']) (by omega) (by simp; omega) ?_; intro v' w' ho' hc'))
        have HO' := hid ho'
        have hch := hid (chg_ownK (HCh.out.trans (Chg.alloc [] wr _)) ho2 (Nat.le_refl _) hc')
        clear ho' hc' ho2 HCh
        go_wp2_with (fail)
        go_roundw
        case rel =>
          refine ⟨k + 1, by omega, by go_num, ?_, hch.out⟩
          have h := HO'.out
          rw [hstep.out, List.length_append, List.map_append]
          exact h
        case measure => simp [intOf]; omega
      · have hn0 : numS b x.name = 0 := by omega
        rw [if_neg hn, List.append_nil] at hstep
        rw [hn0] at cN
        have HO := hid hown
        have HCh := hid (hc.trans (Chg.alloc [] wr (.cells #[.string X, .int .i64 x.unit, .string Y, .int .i64 x.file] 45)))
        have HO2 := hid (ownK_keep1 hown (Chg.alloc [] wr (.cells #[.string X, .int .i64 x.unit, .string Y, .int .i64 x.file] 45)))
        clear hown hc hn hn0
        go_wp2_with (go_at_call 59; refine (cN _).mono ?_; rintro e w1 ⟨rfl, rfl⟩)
        go_roundw
        case rel =>
          refine ⟨k + 1, by omega, by go_num, ?_, HCh.out⟩
          rw [hstep.out]
          exact HO2.out
        case measure => simp [intOf]; omega
    · obtain rfl : k = L := by omega
      go_wp2_with (fail)
      go_ret
      exact ⟨_, rfl, HF.out _ _ hown, hc⟩

end Go.Proofs.YtldkmclfhjcicaaGreatDoor

/- Valid entries and groups. -/
namespace Go.Proofs.YtldkmclfhjcicaaGreatDoor
open Go.RowKit Go.Shelf
set_option linter.unusedVariables false
set_option linter.unusedSimpArgs false

def ufOk (u f : Int) : Bool := decide (u = 5) && decide (f = 0) || decide (u = 4) && decide (1 ≤ f) && decide (f ≤ 4096)
def serOk (s : Bs) : Bool := decide (1 ≤ s.length) && decide (s.length ≤ 6) && s.all capC

theorem valid_uf (S T : ByteArray) (u f : Int) (w w' : World) (hc : Chg [] (w.alloc (.cells #[.string S, .int .i64 u, .string T, .int .i64 f] 45)) w') :
    w'.cell? ⟨w.heap.size, 0, none⟩ = some (.string S) ∧ w'.cell? ⟨w.heap.size, 1, none⟩ = some (.int .i64 u) ∧ w'.cell? ⟨w.heap.size, 2, none⟩ = some (.string T) ∧ w'.cell? ⟨w.heap.size, 3, none⟩ = some (.int .i64 f) := by
  have h := hc.heap (k := w.heap.size) (al_new (o := .cells #[.string S, .int .i64 u, .string T, .int .i64 f] 45 (0, 0)) rfl) (by simp)
  refine ⟨?_, ?_, ?_, ?_⟩ <;> (rw [cell_of_row _ _ _ _ _ _ h]; rfl)

set_option maxRecDepth 100000 in
set_option maxHeartbeats 2000000 in
theorem validE_any (S T : ByteArray) (u f : Int) (w : World) : Calls Tryz.prog 38 #[.agg #[.string S, .int .i64 u, .string T, .int .i64 f]] w fun e w' =>
    e = .returned (.bool (entOk ⟨S.data.toList, u, T.data.toList, f⟩)) ∧ Chg [] w w' := by
  have cN := fun W => Name_any S W
  have cS := fun W => hasBadS_any T W
  obtain ⟨R, hR⟩ : ∃ R, entOk ⟨S.data.toList, u, T.data.toList, f⟩ = R := ⟨_, rfl⟩
  rw [hR]
  have hR2 : (nameOk S.data.toList && serOk T.data.toList && ufOk u f) = R := by rw [← hR]; rfl
  have HR := hid hR2
  clear hR hR2
  cases hn : nameOk S.data.toList
  · obtain rfl : R = false := by rw [← HR.out, hn]; rfl
    rw [hn] at cN
    clear hn
    go_enter Tryz.func38, Tryz.ntmps38
    go_wp2_with (go_at_call 20; refine (cN _).mono ?_; rintro e w1 ⟨rfl, hc⟩; obtain ⟨k0, k1, k2, k3⟩ := valid_uf S T u f w w1 hc)
    go_ret
    exact ⟨rfl, (Chg.alloc _ _ _).trans hc⟩
  · rw [hn] at cN
    by_cases h1 : T.size = 0
    · obtain rfl : R = false := by rw [← HR.out]; unfold serOk; rw [decide_eq_false (by rw [bs_len]; omega : ¬ 1 ≤ T.data.toList.length)]; simp
      have q1 : T.toList = [] := by rw [ByteArray.toList_eq]; exact List.eq_nil_of_length_eq_zero (by rw [bs_len]; exact h1)
      clear hn
      go_enter Tryz.func38, Tryz.ntmps38
      go_wp2_with (go_at_call 20; refine (cN _).mono ?_; rintro e w1 ⟨rfl, hc⟩; obtain ⟨k0, k1, k2, k3⟩ := valid_uf S T u f w w1 hc)
      go_ret
      exact ⟨rfl, (Chg.alloc _ _ _).trans hc⟩
    · have q1 : T.toList.isEmpty = false := by
        rw [ByteArray.toList_eq]
        cases hx : T.data.toList with
        | nil => have := bs_len T; rw [hx] at this; simp at this; omega
        | cons a b => rfl
      by_cases h2 : (6 : Int) < (T.size : Int)
      · obtain rfl : R = false := by rw [← HR.out]; unfold serOk; rw [decide_eq_false (by rw [bs_len]; omega : ¬ T.data.toList.length ≤ 6)]; simp
        clear hn
        go_enter Tryz.func38, Tryz.ntmps38
        go_wp2_with (go_at_call 20; refine (cN _).mono ?_; rintro e w1 ⟨rfl, hc⟩; obtain ⟨k0, k1, k2, k3⟩ := valid_uf S T u f w w1 hc)
        go_ret
        exact ⟨rfl, (Chg.alloc _ _ _).trans hc⟩
      · cases hs : T.data.toList.all capC
        · obtain rfl : R = false := by rw [← HR.out]; unfold serOk; rw [hs]; simp
          rw [hs] at cS
          clear hn hs
          go_enter Tryz.func38, Tryz.ntmps38
          go_wp2_with (first | (go_at_call 20; refine (cN _).mono ?_; rintro e w1 ⟨rfl, hc⟩; obtain ⟨k0, k1, k2, k3⟩ := valid_uf S T u f w w1 hc) | (go_at_call 50; refine (cS _).mono ?_; rintro e w2 ⟨rfl, hc2⟩))
          go_ret
          exact ⟨rfl, ((Chg.alloc _ _ _).trans hc).trans hc2⟩
        · have hserial : serOk T.data.toList = true := by unfold serOk; rw [hs, decide_eq_true (by rw [bs_len]; omega : 1 ≤ T.data.toList.length), decide_eq_true (by rw [bs_len]; omega : T.data.toList.length ≤ 6)]; rfl
          have HR2 := hid (show ufOk u f = R from by rw [← HR.out, hn, hserial]; rfl)
          rw [hs] at cS
          clear hn hs hserial HR
          by_cases g1 : u = 5
          · subst g1
            by_cases g2 : f = 0
            · subst g2
              obtain rfl : R = true := by rw [← HR2.out]; rfl
              go_enter Tryz.func38, Tryz.ntmps38
              go_wp2_with (first | (go_at_call 20; refine (cN _).mono ?_; rintro e w1 ⟨rfl, hc⟩; obtain ⟨k0, k1, k2, k3⟩ := valid_uf S T 5 0 w w1 hc) | (go_at_call 50; refine (cS _).mono ?_; rintro e w2 ⟨rfl, hc2⟩; obtain ⟨m0, m1, m2, m3⟩ := valid_uf S T 5 0 w w2 (hc.trans hc2)))
              go_ret
              exact ⟨rfl, ((Chg.alloc _ _ _).trans hc).trans hc2⟩
            · obtain rfl : R = false := by rw [← HR2.out]; unfold ufOk; rw [decide_eq_false g2]; rfl
              have g3 : (f == 0) = false := beq_eq_false_iff_ne.2 g2
              go_enter Tryz.func38, Tryz.ntmps38
              go_wp2_with (first | (go_at_call 20; refine (cN _).mono ?_; rintro e w1 ⟨rfl, hc⟩; obtain ⟨k0, k1, k2, k3⟩ := valid_uf S T 5 f w w1 hc) | (go_at_call 50; refine (cS _).mono ?_; rintro e w2 ⟨rfl, hc2⟩; obtain ⟨m0, m1, m2, m3⟩ := valid_uf S T 5 f w w2 (hc.trans hc2)))
              go_ret
              exact ⟨rfl, ((Chg.alloc _ _ _).trans hc).trans hc2⟩
          · have g3 : (u == 5) = false := beq_eq_false_iff_ne.2 g1
            by_cases g4 : u = 4
            · subst g4
              by_cases g5 : 1 ≤ f
              · by_cases g6 : f ≤ 4096
                · obtain rfl : R = true := by rw [← HR2.out]; unfold ufOk; simp; omega
                  go_enter Tryz.func38, Tryz.ntmps38
                  go_wp2_with (first | (go_at_call 20; refine (cN _).mono ?_; rintro e w1 ⟨rfl, hc⟩; obtain ⟨k0, k1, k2, k3⟩ := valid_uf S T 4 f w w1 hc) | (go_at_call 50; refine (cS _).mono ?_; rintro e w2 ⟨rfl, hc2⟩; obtain ⟨m0, m1, m2, m3⟩ := valid_uf S T 4 f w w2 (hc.trans hc2)))
                  go_ret
                  exact ⟨rfl, ((Chg.alloc _ _ _).trans hc).trans hc2⟩
                · obtain rfl : R = false := by rw [← HR2.out]; unfold ufOk; simp; omega
                  go_enter Tryz.func38, Tryz.ntmps38
                  go_wp2_with (first | (go_at_call 20; refine (cN _).mono ?_; rintro e w1 ⟨rfl, hc⟩; obtain ⟨k0, k1, k2, k3⟩ := valid_uf S T 4 f w w1 hc) | (go_at_call 50; refine (cS _).mono ?_; rintro e w2 ⟨rfl, hc2⟩; obtain ⟨m0, m1, m2, m3⟩ := valid_uf S T 4 f w w2 (hc.trans hc2)))
                  go_ret
                  exact ⟨ret_bool (decide_eq_false (by omega)).symm, ((Chg.alloc _ _ _).trans hc).trans hc2⟩
              · obtain rfl : R = false := by rw [← HR2.out]; unfold ufOk; simp; omega
                go_enter Tryz.func38, Tryz.ntmps38
                go_wp2_with (first | (go_at_call 20; refine (cN _).mono ?_; rintro e w1 ⟨rfl, hc⟩; obtain ⟨k0, k1, k2, k3⟩ := valid_uf S T 4 f w w1 hc) | (go_at_call 50; refine (cS _).mono ?_; rintro e w2 ⟨rfl, hc2⟩; obtain ⟨m0, m1, m2, m3⟩ := valid_uf S T 4 f w w2 (hc.trans hc2)))
                go_ret
                exact ⟨rfl, ((Chg.alloc _ _ _).trans hc).trans hc2⟩
            · obtain rfl : R = false := by rw [← HR2.out]; unfold ufOk; rw [decide_eq_false g1, decide_eq_false g4]; rfl
              have g5 : (u == 4) = false := beq_eq_false_iff_ne.2 g4
              go_enter Tryz.func38, Tryz.ntmps38
              go_wp2_with (first | (go_at_call 20; refine (cN _).mono ?_; rintro e w1 ⟨rfl, hc⟩; obtain ⟨k0, k1, k2, k3⟩ := valid_uf S T u f w w1 hc) | (go_at_call 50; refine (cS _).mono ?_; rintro e w2 ⟨rfl, hc2⟩; obtain ⟨m0, m1, m2, m3⟩ := valid_uf S T u f w w2 (hc.trans hc2)))
              go_ret
              exact ⟨rfl, ((Chg.alloc _ _ _).trans hc).trans hc2⟩

set_option maxRecDepth 100000 in
set_option maxHeartbeats 1000000 in
theorem validG_any (S : ByteArray) (l : Int) (w : World) : Calls Tryz.prog 41 #[.agg #[.string S, .int .i64 l]] w fun e w' =>
    e = .returned (.bool (grpOk ⟨S.data.toList, l⟩)) ∧ Chg [] w w' := by
  have cN := fun W => Name_any S W
  obtain ⟨R, hR⟩ : ∃ R, grpOk ⟨S.data.toList, l⟩ = R := ⟨_, rfl⟩
  rw [hR]
  have HR := hid (show (nameOk S.data.toList && decide (S.data.toList.length ≤ 35) && decide (1 ≤ l) && decide (l ≤ 255)) = R from hR)
  clear hR
  have two : ∀ w', Chg [] (w.alloc (.cells #[.string S, .int .i64 l] 54)) w' → w'.cell? ⟨w.heap.size, 0, none⟩ = some (.string S) ∧ w'.cell? ⟨w.heap.size, 1, none⟩ = some (.int .i64 l) := fun w' hc =>
    two_cells (hc.heap (k := w.heap.size) (al_new rfl) (by simp))
  cases hn : nameOk S.data.toList
  · obtain rfl : R = false := by rw [← HR.out, hn]; rfl
    rw [hn] at cN
    clear hn
    go_enter Tryz.func41, Tryz.ntmps41
    go_wp2_with (go_at_call 20; refine (cN _).mono ?_; rintro e w1 ⟨rfl, hc⟩; obtain ⟨k0, k1⟩ := two _ hc)
    go_ret
    exact ⟨rfl, (Chg.alloc _ _ _).trans hc⟩
  · rw [hn] at cN
    by_cases h1 : (S.size : Int) ≤ 35
    · by_cases h2 : 1 ≤ l
      · by_cases h3 : l ≤ 255
        · obtain rfl : R = true := by rw [← HR.out, hn, decide_eq_true (by rw [bs_len]; omega : S.data.toList.length ≤ 35), decide_eq_true h2, decide_eq_true h3]; rfl
          clear hn
          go_enter Tryz.func41, Tryz.ntmps41
          go_wp2_with (go_at_call 20; refine (cN _).mono ?_; rintro e w1 ⟨rfl, hc⟩; obtain ⟨k0, k1⟩ := two _ hc)
          go_ret
          exact ⟨rfl, (Chg.alloc _ _ _).trans hc⟩
        · obtain rfl : R = false := by rw [← HR.out, hn, decide_eq_false h3]; simp
          clear hn
          go_enter Tryz.func41, Tryz.ntmps41
          go_wp2_with (go_at_call 20; refine (cN _).mono ?_; rintro e w1 ⟨rfl, hc⟩; obtain ⟨k0, k1⟩ := two _ hc)
          go_ret
          exact ⟨ret_bool (decide_eq_false (by omega)).symm, (Chg.alloc _ _ _).trans hc⟩
      · obtain rfl : R = false := by rw [← HR.out, hn, decide_eq_false h2]; simp
        clear hn
        go_enter Tryz.func41, Tryz.ntmps41
        go_wp2_with (go_at_call 20; refine (cN _).mono ?_; rintro e w1 ⟨rfl, hc⟩; obtain ⟨k0, k1⟩ := two _ hc)
        go_ret
        exact ⟨rfl, (Chg.alloc _ _ _).trans hc⟩
    · obtain rfl : R = false := by rw [← HR.out, hn, decide_eq_false (by rw [bs_len]; omega : ¬ S.data.toList.length ≤ 35)]; simp
      clear hn
      go_enter Tryz.func41, Tryz.ntmps41
      go_wp2_with (go_at_call 20; refine (cN _).mono ?_; rintro e w1 ⟨rfl, hc⟩; obtain ⟨k0, k1⟩ := two _ hc)
      go_ret
      exact ⟨rfl, (Chg.alloc _ _ _).trans hc⟩

end Go.Proofs.YtldkmclfhjcicaaGreatDoor
